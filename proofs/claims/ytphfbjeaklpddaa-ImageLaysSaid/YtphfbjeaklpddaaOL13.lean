/-
  Layer 42: values written as octets, read as an image: the walk.
-/
import Derived.Test.YtphfbjeaklpddaaOL12
set_option linter.unusedSimpArgs false
set_option linter.unusedVariables false

/- Layer 42: values written as octets, read as an image: the walk. -/
namespace Go.Proofs.Ytphfbjeaklpddaa
open Go.RowKit

set_option maxRecDepth 100000 in
set_option maxHeartbeats 2000000 in
theorem lays_coreF (vs : List Int) (hvs : ∀ v ∈ vs, 0 ≤ v ∧ v < 65536) (hlen : vs.length ≤ maxLen) (ch : Int) (hch : 0 ≤ ch ∧ ch < 256) (pl : Bool) (C Q W : Int) (hC : 1 + ch % 4 = C) (hQ : ((vs.length : Nat) : Int) / C = Q) (hW : min Q 64 = W) (O : ByteArray) (hok : 0 < W → (oneRow W C 8 pl).ok) (hmk : 0 < W → makR (oneRow W C 8 pl) = (⟨oneRow W C 8 pl, O⟩, 0)) : PC Try.prog 10 [.d (.sl vs.length 1 (u16D vs)), .d (.int .u8 ch), .d (.bool pl), .d (.bool false)] (.d (.bool true)) := by
  refine PC_of (fn := Try.f10) Try.func10 rfl (by simp [Try.ntmps10]) (by kernel_rfl) fun G hG => ?_
  rw [Try.ntmps10]
  have hlen1 : vs.length ≤ 9223372036854775807 := hlen
  obtain ⟨hC1, hW1, hCW, hCW1, hCW2⟩ := lay_bd hch hC hQ hW
  refine aw_seq ?_
  refine aw_region_seq [⟨.d (.bool false), [], [], []⟩] (by kernel_rfl) (by kernel_rfl) (fun id _ => hG id) ?_ ?_
  · exact okY rfl (LT_assign rfl rfl) <| okE
  change AW _ _ _ _ _ _
  refine aw_weak (weak_of [(0, .d (.sl vs.length 1 (u16D vs))), (1, .d (.int .u8 ch)), (2, .d (.bool pl)), (3, .d (.bool false))] [] [] (sE rfl (sE rfl (sE rfl (sE rfl sE0)))) sH0 (by kernel_rfl)) ?_
  refine aw_seq ?_
  refine aw_seq ?_
  refine aw_region_seq [⟨.d (.bool true), [], [], []⟩, ⟨.d (.bool false), [], [], []⟩] (by kernel_rfl) (by kernel_rfl) (fun id _ => hG id) ?_ ?_
  · exact okY rfl (LT_call [] rfl rfl Try.call11 rfl (pc_wakes.ct rfl)) <| okY rfl (LT_not rfl rfl rfl) <| okE
  change AW _ _ _ _ _ _
  refine aw_weak (weak_of [(0, .d (.sl vs.length 1 (u16D vs))), (1, .d (.int .u8 ch)), (2, .d (.bool pl)), (3, .d (.bool false)), (24, .d (.bool false))] [] [] (sE rfl (sE rfl (sE rfl (sE rfl (sE rfl sE0))))) sH0 (by kernel_rfl)) ?_
  refine aw_condF rfl ?_
  refine aw_skip ?_
  change AW _ _ _ _ _ _
  refine aw_weak (weak_of [(0, .d (.sl vs.length 1 (u16D vs))), (1, .d (.int .u8 ch)), (2, .d (.bool pl)), (3, .d (.bool false))] [] [] (sE rfl (sE rfl (sE rfl (sE rfl sE0)))) sH0 (by kernel_rfl)) ?_
  refine aw_seq ?_
  refine aw_region_seq [⟨.d (.int .u8 ch), [], [], []⟩, ⟨.d (.int .u8 (ch % 4)), [], [], []⟩, ⟨.d (.int .i64 (ch % 4)), [], [], []⟩, ⟨.d (.int .i64 C), [], [], []⟩, ⟨.d (.int .i64 C), [], [], []⟩] (by kernel_rfl) (by kernel_rfl) (fun id _ => hG id) ?_ ?_
  · exact okY rfl (LT_move rfl rfl) <| okY rfl (LT_rem rfl rfl rfl (by omega) (Int.tmod_eq_emod_of_nonneg (by omega))) <| okY rfl (LT_conv rfl Try.underlying5 Try.underlying3 rfl (wi64 (by omega) (by omega))) <| okY rfl (LT_add rfl rfl rfl (by rw [IntWalk.i64_in _ (by omega)]; exact hC)) <| okY rfl (LT_assign rfl rfl) <| okE
  change AW _ _ _ _ _ _
  refine aw_weak (weak_of [(0, .d (.sl vs.length 1 (u16D vs))), (2, .d (.bool pl)), (3, .d (.bool false)), (9, .d (.int .i64 C))] [] [] (sE rfl (sE rfl (sE rfl (sE rfl sE0)))) sH0 (by kernel_rfl)) ?_
  refine aw_seq ?_
  refine aw_region_seq [⟨.d (.sl vs.length 1 (u16D vs)), [], [], []⟩, ⟨.d (.int .i64 ((vs.length : Nat) : Int)), [], [], []⟩, ⟨.d (.int .i64 C), [], [], []⟩, ⟨.d (.int .i64 Q), [], [], []⟩, ⟨.d (.int .i64 W), [], [], []⟩, ⟨.d (.int .i64 W), [], [], []⟩, ⟨.d (.int .i64 8), [], [], []⟩] (by kernel_rfl) (by kernel_rfl) (fun id _ => hG id) ?_ ?_
  · exact okY rfl (LT_move rfl rfl) <| okY rfl (LT_lenD rfl Try.underlying22 rfl) <| okY rfl (LT_move rfl rfl) <| okY rfl (LT_quo rfl rfl rfl (by omega) (by rw [IntWalk.i64_quo _ _ (by omega)]; exact hQ)) <| okY rfl (LT_min2 rfl rfl rfl hW) <| okY rfl (LT_assign rfl rfl) <| okY rfl (LT_assign rfl rfl) <| okE
  change AW _ _ _ _ _ _
  refine aw_weak (weak_of [(0, .d (.sl vs.length 1 (u16D vs))), (2, .d (.bool pl)), (3, .d (.bool false)), (9, .d (.int .i64 C)), (10, .d (.int .i64 W)), (11, .d (.int .i64 8))] [] [] (sE rfl (sE rfl (sE rfl (sE rfl (sE rfl (sE rfl sE0)))))) sH0 (by kernel_rfl)) ?_
  refine aw_seq ?_
  refine aw_seq ?_
  refine aw_region_seq [⟨.d (.int .i64 W), [], [], []⟩, ⟨.d (.bool ((W : Int) == 0)), [], [], []⟩] (by kernel_rfl) (by kernel_rfl) (fun id _ => hG id) ?_ ?_
  · exact okY rfl (LT_move rfl rfl) <| okY rfl (LT_cmp rfl rfl rfl rfl rfl) <| okE
  change AW _ _ _ _ _ _
  refine aw_weak (weak_of [(0, .d (.sl vs.length 1 (u16D vs))), (2, .d (.bool pl)), (3, .d (.bool false)), (9, .d (.int .i64 C)), (10, .d (.int .i64 W)), (11, .d (.int .i64 8)), (35, .d (.bool ((W : Int) == 0)))] [] [] (sE rfl (sE rfl (sE rfl (sE rfl (sE rfl (sE rfl (sE rfl sE0))))))) sH0 (by kernel_rfl)) ?_
  refine aw_cond ((W : Int) == 0) rfl (fun hb1 => ?_) (fun hb1 => ?_)
  ·
    refine aw_seq ?_
    refine aw_region_seq [⟨.d (.bool true), [], [], []⟩] (by kernel_rfl) (by kernel_rfl) (fun id _ => hG id) ?_ ?_
    · exact okY rfl (LT_assign rfl rfl) <| okE
    change AW _ _ _ _ _ _
    refine aw_weak (weak_of [(8, .d (.bool true))] [] [] (sE rfl sE0) sH0 (by kernel_rfl)) ?_
    refine aw_ret ?_
    refine fin1 (x := .d (.bool true)) (.inl rfl) Try.results10 rfl ?_
    exact rfl
  ·
    have hW0 : 0 < W := by
      have : W ≠ 0 := by simpa using hb1
      omega
    replace hok := hok hW0
    replace hmk := hmk hW0
    have hCW0 : 0 < C * W := Int.mul_pos (by omega) hW0
    refine aw_skip ?_
    change AW _ _ _ _ _ _
    refine aw_weak (weak_of [(0, .d (.sl vs.length 1 (u16D vs))), (2, .d (.bool pl)), (3, .d (.bool false)), (9, .d (.int .i64 C)), (10, .d (.int .i64 W)), (11, .d (.int .i64 8))] [] [] (sE rfl (sE rfl (sE rfl (sE rfl (sE rfl (sE rfl sE0)))))) sH0 (by kernel_rfl)) ?_
    refine aw_seq ?_
    refine aw_seq ?_
    refine aw_region_seq [⟨.d (.bool false), [], [], []⟩] (by kernel_rfl) (by kernel_rfl) (fun id _ => hG id) ?_ ?_
    · exact okY rfl (LT_move rfl rfl) <| okE
    change AW _ _ _ _ _ _
    refine aw_weak (weak_of [(0, .d (.sl vs.length 1 (u16D vs))), (2, .d (.bool pl)), (3, .d (.bool false)), (9, .d (.int .i64 C)), (10, .d (.int .i64 W)), (11, .d (.int .i64 8)), (36, .d (.bool false))] [] [] (sE rfl (sE rfl (sE rfl (sE rfl (sE rfl (sE rfl (sE rfl sE0))))))) sH0 (by kernel_rfl)) ?_
    refine aw_condF rfl ?_
    refine aw_skip ?_
    change AW _ _ _ _ _ _
    refine aw_weak (weak_of [(0, .d (.sl vs.length 1 (u16D vs))), (2, .d (.bool pl)), (3, .d (.bool false)), (9, .d (.int .i64 C)), (10, .d (.int .i64 W)), (11, .d (.int .i64 8))] [] [] (sE rfl (sE rfl (sE rfl (sE rfl (sE rfl (sE rfl sE0)))))) sH0 (by kernel_rfl)) ?_
    refine aw_seq ?_
    refine aw_region_seq [⟨.d (.int .i64 W), [], [], []⟩, ⟨.d (.int .i64 C), [], [], []⟩, ⟨.d (.int .i64 8), [], [], []⟩, ⟨.d (.bool pl), [], [], []⟩, ⟨.tup [.agg [.d (.int .i64 W), .d (.int .i64 1), .d (.int .i64 C), .d (.int .i64 8), .d (.bool pl), .d (.int .i64 1), .d (.str O)], .d (.int .i64 0)], [], [], []⟩, ⟨.tup [.agg [.d (.int .i64 W), .d (.int .i64 1), .d (.int .i64 C), .d (.int .i64 8), .d (.bool pl), .d (.int .i64 1), .d (.str O)], .d (.int .i64 0)], [], [], []⟩, ⟨.agg [.d (.int .i64 W), .d (.int .i64 1), .d (.int .i64 C), .d (.int .i64 8), .d (.bool pl), .d (.int .i64 1), .d (.str O)], [], [], []⟩, ⟨.d (.int .i64 0), [], [], []⟩, ⟨.ptr 1 0, [(1, some ⟨31, 7, [.d (.int .i64 0), .d (.int .i64 0), .d (.int .i64 0), .d (.int .i64 0), .d (.bool false), .d (.int .i64 0), .d (.str (⟨#[]⟩))]⟩)], [1], []⟩, ⟨.tup [], [(1, some ⟨31, 7, [.d (.int .i64 W), .d (.int .i64 1), .d (.int .i64 C), .d (.int .i64 8), .d (.bool pl), .d (.int .i64 1), .d (.str O)]⟩)], [], [1]⟩, ⟨.d (.int .i64 0), [], [], []⟩] (by kernel_rfl) (by kernel_rfl) (fun id _ => hG id) ?_ ?_
    · exact okY rfl (LT_move rfl rfl) <| okY rfl (LT_move rfl rfl) <| okY rfl (LT_move rfl rfl) <| okY rfl (LT_move rfl rfl) <| okY rfl (LT_call [.d (.int .i64 W), .d (.int .i64 1), .d (.int .i64 C), .d (.int .i64 8), .d (.bool pl), .d (.int .i64 1)] rfl rfl Try.call17 rfl ((pc_make' hmk).ct rfl)) <| okY rfl (LT_move rfl rfl) <| okY rfl (LT_extract rfl rfl rfl) <| okY rfl (LT_extract rfl rfl rfl) <| okY rfl (LT_alloc 1 rfl inf31 rfl 7 rfl (List.Mem.head _)) <| okY rfl (LT_store (ob := ⟨31, 7, [.d (.int .i64 0), .d (.int .i64 0), .d (.int .i64 0), .d (.int .i64 0), .d (.bool false), .d (.int .i64 0), .d (.str (⟨#[]⟩))]⟩) (x := .agg [.d (.int .i64 W), .d (.int .i64 1), .d (.int .i64 C), .d (.int .i64 8), .d (.bool pl), .d (.int .i64 1), .d (.str O)]) rfl rfl rfl (List.Mem.head _) inf31 rfl rfl rfl (by simp [X.cells]) _ rfl) <| okY rfl (LT_assign rfl rfl) <| okE
    change AW _ _ _ _ _ _
    refine aw_weak (weak_of [(0, .d (.sl vs.length 1 (u16D vs))), (2, .d (.bool pl)), (3, .d (.bool false)), (9, .d (.int .i64 C)), (10, .d (.int .i64 W)), (12, .ptr 1 0), (13, .d (.int .i64 0))] [(1, some ⟨31, 7, [.d (.int .i64 W), .d (.int .i64 1), .d (.int .i64 C), .d (.int .i64 8), .d (.bool pl), .d (.int .i64 1), .d (.str O)]⟩)] [1] (sE rfl (sE rfl (sE rfl (sE rfl (sE rfl (sE rfl (sE rfl sE0))))))) (sH rfl sH0) (by kernel_rfl)) ?_
    refine aw_seq ?_
    refine aw_seq ?_
    refine aw_region_seq [⟨.d (.int .i64 0), [], [], []⟩, ⟨.d (.bool false), [], [], []⟩] (by kernel_rfl) (by kernel_rfl) (fun id _ => hG id) ?_ ?_
    · exact okY rfl (LT_move rfl rfl) <| okY rfl (LT_cmp rfl rfl rfl rfl rfl) <| okE
    change AW _ _ _ _ _ _
    refine aw_weak (weak_of [(0, .d (.sl vs.length 1 (u16D vs))), (2, .d (.bool pl)), (3, .d (.bool false)), (9, .d (.int .i64 C)), (10, .d (.int .i64 W)), (12, .ptr 1 0), (46, .d (.bool false))] [(1, some ⟨31, 7, [.d (.int .i64 W), .d (.int .i64 1), .d (.int .i64 C), .d (.int .i64 8), .d (.bool pl), .d (.int .i64 1), .d (.str O)]⟩)] [1] (sE rfl (sE rfl (sE rfl (sE rfl (sE rfl (sE rfl (sE rfl sE0))))))) (sH rfl sH0) (by kernel_rfl)) ?_
    refine aw_condF rfl ?_
    refine aw_skip ?_
    change AW _ _ _ _ _ _
    refine aw_weak (weak_of [(0, .d (.sl vs.length 1 (u16D vs))), (2, .d (.bool pl)), (3, .d (.bool false)), (9, .d (.int .i64 C)), (10, .d (.int .i64 W)), (12, .ptr 1 0)] [(1, some ⟨31, 7, [.d (.int .i64 W), .d (.int .i64 1), .d (.int .i64 C), .d (.int .i64 8), .d (.bool pl), .d (.int .i64 1), .d (.str O)]⟩)] [1] (sE rfl (sE rfl (sE rfl (sE rfl (sE rfl (sE rfl sE0)))))) (sH rfl sH0) (by kernel_rfl)) ?_
    refine aw_seq ?_
    refine aw_region_seq [⟨.ptr 2 0, [(2, some ⟨72, 2, [.d .nilp, .d (.sl 0 0 [])]⟩)], [2], []⟩] (by kernel_rfl) (by kernel_rfl) (fun id _ => hG id) ?_ ?_
    · exact okY rfl (LT_alloc 2 rfl inf72 rfl 2 rfl (List.Mem.head _)) <| okE
    change AW _ _ _ _ _ _
    refine aw_weak (weak_of [(0, .d (.sl vs.length 1 (u16D vs))), (2, .d (.bool pl)), (3, .d (.bool false)), (9, .d (.int .i64 C)), (10, .d (.int .i64 W)), (12, .ptr 1 0), (14, .ptr 2 0)] [(1, some ⟨31, 7, [.d (.int .i64 W), .d (.int .i64 1), .d (.int .i64 C), .d (.int .i64 8), .d (.bool pl), .d (.int .i64 1), .d (.str O)]⟩), (2, some ⟨72, 2, [.d .nilp, .d (.sl 0 0 [])]⟩)] [1, 2] (sE rfl (sE rfl (sE rfl (sE rfl (sE rfl (sE rfl (sE rfl sE0))))))) (sH rfl (sH rfl sH0)) (by kernel_rfl)) ?_
    refine aw_seq ?_
    refine aw_seq ?_
    refine aw_region_seq [⟨.d (.int .i64 C), [], [], []⟩, ⟨.d (.int .i64 W), [], [], []⟩, ⟨.d (.int .i64 (C * W)), [], [], []⟩, ⟨.d (.int .i64 0), [], [], []⟩] (by kernel_rfl) (by kernel_rfl) (fun id _ => hG id) ?_ ?_
    · exact okY rfl (LT_move rfl rfl) <| okY rfl (LT_move rfl rfl) <| okY rfl (LT_mul rfl rfl rfl (wi64 (by omega) (by omega))) <| okY rfl (LT_move rfl rfl) <| okE
    change AW _ _ _ _ _ _
    refine aw_weak (weak_of [(0, .d (.sl vs.length 1 (u16D vs))), (2, .d (.bool pl)), (3, .d (.bool false)), (9, .d (.int .i64 C)), (10, .d (.int .i64 W)), (12, .ptr 1 0), (14, .ptr 2 0), (49, .d (.int .i64 (C * W))), (50, .d (.int .i64 0))] [(1, some ⟨31, 7, [.d (.int .i64 W), .d (.int .i64 1), .d (.int .i64 C), .d (.int .i64 8), .d (.bool pl), .d (.int .i64 1), .d (.str O)]⟩), (2, some ⟨72, 2, [.d .nilp, .d (.sl 0 0 [])]⟩)] [1, 2] (sE rfl (sE rfl (sE rfl (sE rfl (sE rfl (sE rfl (sE rfl (sE rfl (sE rfl sE0))))))))) (sH rfl (sH rfl sH0)) (by kernel_rfl)) ?_
    refine aw_block ?_
    refine aw_loopJ (fun i => match i with | 0 => ⟨[(0, .d (.sl vs.length 1 (u16D vs))), (2, .d (.bool pl)), (3, .d (.bool false)), (9, .d (.int .i64 C)), (10, .d (.int .i64 W)), (12, .ptr 1 0), (14, .ptr 2 0), (49, .d (.int .i64 (C * W))), (50, .d (.int .i64 0))], [(1, some ⟨31, 7, [.d (.int .i64 W), .d (.int .i64 1), .d (.int .i64 C), .d (.int .i64 8), .d (.bool pl), .d (.int .i64 1), .d (.str O)]⟩), (2, some ⟨72, 2, [.d .nilp, .d (.sl 0 0 [])]⟩)], [1, 2]⟩ | k + 1 => ⟨[(0, .d (.sl vs.length 1 (u16D vs))), (2, .d (.bool pl)), (3, .d (.bool false)), (9, .d (.int .i64 C)), (10, .d (.int .i64 W)), (12, .ptr 1 0), (14, .ptr 2 0), (49, .d (.int .i64 (C * W))), (50, .d (.int .i64 (((k + 1) : Nat) : Int)))], [(1, some ⟨31, 7, [.d (.int .i64 W), .d (.int .i64 1), .d (.int .i64 C), .d (.int .i64 8), .d (.bool pl), .d (.int .i64 1), .d (.str O)]⟩), (2, some ⟨72, 2, [.ptr 2 0, .own 90 (k + 1) 1]⟩), (90, some ⟨5, 1, (u8D (bytL (oneRow W C 8 pl) (vv false vs) (k + 1))).map X.d⟩)], [1, 2, 90]⟩) (fun i => ((i : Nat) : Int) ≤ C * W) (fun i => (C * W).toNat - i) 0 (by omega) ?_ ?_
    · exact weak_of _ _ _ (sE rfl (sE rfl (sE rfl (sE rfl (sE rfl (sE rfl (sE rfl (sE rfl (sE rfl sE0))))))))) (sH rfl (sH rfl sH0)) (by kernel_rfl)
    intro i hJ0
    match i, hJ0 with
    | 0, hJ0 =>
      change AW _ _ _ _ ⟨[(0, .d (.sl vs.length 1 (u16D vs))), (2, .d (.bool pl)), (3, .d (.bool false)), (9, .d (.int .i64 C)), (10, .d (.int .i64 W)), (12, .ptr 1 0), (14, .ptr 2 0), (49, .d (.int .i64 (C * W))), (50, .d (.int .i64 0))], [(1, some ⟨31, 7, [.d (.int .i64 W), .d (.int .i64 1), .d (.int .i64 C), .d (.int .i64 8), .d (.bool pl), .d (.int .i64 1), .d (.str O)]⟩), (2, some ⟨72, 2, [.d .nilp, .d (.sl 0 0 [])]⟩)], [1, 2]⟩ _
      have hx := vs_bd hvs 0
      refine aw_seq ?_
      refine aw_region_seq [⟨.d (.bool (decide ((0 : Int) < (C * W)))), [], [], []⟩] (by kernel_rfl) (by kernel_rfl) (fun id _ => hG id) ?_ ?_
      · exact okY rfl (LT_cmp rfl rfl rfl rfl rfl) <| okE
      change AW _ _ _ _ _ _
      refine aw_weak (weak_of [(0, .d (.sl vs.length 1 (u16D vs))), (2, .d (.bool pl)), (3, .d (.bool false)), (9, .d (.int .i64 C)), (10, .d (.int .i64 W)), (12, .ptr 1 0), (14, .ptr 2 0), (49, .d (.int .i64 (C * W))), (50, .d (.int .i64 0)), (51, .d (.bool (decide ((0 : Int) < (C * W)))))] [(1, some ⟨31, 7, [.d (.int .i64 W), .d (.int .i64 1), .d (.int .i64 C), .d (.int .i64 8), .d (.bool pl), .d (.int .i64 1), .d (.str O)]⟩), (2, some ⟨72, 2, [.d .nilp, .d (.sl 0 0 [])]⟩)] [1, 2] (sE rfl (sE rfl (sE rfl (sE rfl (sE rfl (sE rfl (sE rfl (sE rfl (sE rfl (sE rfl sE0)))))))))) (sH rfl (sH rfl sH0)) (by kernel_rfl)) ?_
      refine aw_seq ?_
      refine aw_cond (decide ((0 : Int) < (C * W))) rfl (fun hb2 => ?_) (fun hb2 => ?_)
      ·
        replace hb2 := of_decide_eq_true hb2
        refine aw_skip ?_
        change AW _ _ _ _ _ _
        refine aw_weak (weak_of [(0, .d (.sl vs.length 1 (u16D vs))), (2, .d (.bool pl)), (3, .d (.bool false)), (9, .d (.int .i64 C)), (10, .d (.int .i64 W)), (12, .ptr 1 0), (14, .ptr 2 0), (49, .d (.int .i64 (C * W))), (50, .d (.int .i64 0))] [(1, some ⟨31, 7, [.d (.int .i64 W), .d (.int .i64 1), .d (.int .i64 C), .d (.int .i64 8), .d (.bool pl), .d (.int .i64 1), .d (.str O)]⟩), (2, some ⟨72, 2, [.d .nilp, .d (.sl 0 0 [])]⟩)] [1, 2] (sE rfl (sE rfl (sE rfl (sE rfl (sE rfl (sE rfl (sE rfl (sE rfl (sE rfl sE0))))))))) (sH rfl (sH rfl sH0)) (by kernel_rfl)) ?_
        refine aw_seq ?_
        refine aw_block ?_
        refine aw_seq ?_
        refine aw_region_seq [⟨.d (.int .i64 0), [], [], []⟩, ⟨.d (.int .i64 0), [], [], []⟩] (by kernel_rfl) (by kernel_rfl) (fun id _ => hG id) ?_ ?_
        · exact okY rfl (LT_move rfl rfl) <| okY rfl (LT_assign rfl rfl) <| okE
        change AW _ _ _ _ _ _
        refine aw_weak (weak_of [(0, .d (.sl vs.length 1 (u16D vs))), (2, .d (.bool pl)), (3, .d (.bool false)), (9, .d (.int .i64 C)), (10, .d (.int .i64 W)), (12, .ptr 1 0), (14, .ptr 2 0), (49, .d (.int .i64 (C * W))), (50, .d (.int .i64 0)), (15, .d (.int .i64 0))] [(1, some ⟨31, 7, [.d (.int .i64 W), .d (.int .i64 1), .d (.int .i64 C), .d (.int .i64 8), .d (.bool pl), .d (.int .i64 1), .d (.str O)]⟩), (2, some ⟨72, 2, [.d .nilp, .d (.sl 0 0 [])]⟩)] [1, 2] (sE rfl (sE rfl (sE rfl (sE rfl (sE rfl (sE rfl (sE rfl (sE rfl (sE rfl (sE rfl sE0)))))))))) (sH rfl (sH rfl sH0)) (by kernel_rfl)) ?_
        refine aw_seq ?_
        refine aw_region_seq [⟨.d (.sl vs.length 1 (u16D vs)), [], [], []⟩, ⟨.d (.int .i64 0), [], [], []⟩, ⟨.dptr [.int .u16 (vs.getD 0 0)], [], [], []⟩, ⟨.d (.int .u16 (vs.getD 0 0)), [], [], []⟩, ⟨.d (.int .u16 (vs.getD 0 0)), [], [], []⟩] (by kernel_rfl) (by kernel_rfl) (fun id _ => hG id) ?_ ?_
        · exact okY rfl (LT_move rfl rfl) <| okY rfl (LT_move rfl rfl) <| okY rfl (LT_indexD rfl rfl rfl Try.underlying22 inf45 rfl (by omega) (by omega) (u16D_at (by omega))) <| okY rfl (LT_loadD 1 rfl rfl Try.underlying45 inf45 (by simp) (.inr ⟨rfl, rfl, rfl⟩)) <| okY rfl (LT_assign rfl rfl) <| okE
        change AW _ _ _ _ _ _
        refine aw_weak (weak_of [(0, .d (.sl vs.length 1 (u16D vs))), (2, .d (.bool pl)), (3, .d (.bool false)), (9, .d (.int .i64 C)), (10, .d (.int .i64 W)), (12, .ptr 1 0), (14, .ptr 2 0), (49, .d (.int .i64 (C * W))), (50, .d (.int .i64 0)), (16, .d (.int .u16 (vs.getD 0 0)))] [(1, some ⟨31, 7, [.d (.int .i64 W), .d (.int .i64 1), .d (.int .i64 C), .d (.int .i64 8), .d (.bool pl), .d (.int .i64 1), .d (.str O)]⟩), (2, some ⟨72, 2, [.d .nilp, .d (.sl 0 0 [])]⟩)] [1, 2] (sE rfl (sE rfl (sE rfl (sE rfl (sE rfl (sE rfl (sE rfl (sE rfl (sE rfl (sE rfl sE0)))))))))) (sH rfl (sH rfl sH0)) (by kernel_rfl)) ?_
        refine aw_seq ?_
        refine aw_seq ?_
        refine aw_region_seq [⟨.d (.bool false), [], [], []⟩] (by kernel_rfl) (by kernel_rfl) (fun id _ => hG id) ?_ ?_
        · exact okY rfl (LT_move rfl rfl) <| okE
        change AW _ _ _ _ _ _
        refine aw_weak (weak_of [(0, .d (.sl vs.length 1 (u16D vs))), (2, .d (.bool pl)), (3, .d (.bool false)), (9, .d (.int .i64 C)), (10, .d (.int .i64 W)), (12, .ptr 1 0), (14, .ptr 2 0), (49, .d (.int .i64 (C * W))), (50, .d (.int .i64 0)), (16, .d (.int .u16 (vs.getD 0 0))), (57, .d (.bool false))] [(1, some ⟨31, 7, [.d (.int .i64 W), .d (.int .i64 1), .d (.int .i64 C), .d (.int .i64 8), .d (.bool pl), .d (.int .i64 1), .d (.str O)]⟩), (2, some ⟨72, 2, [.d .nilp, .d (.sl 0 0 [])]⟩)] [1, 2] (sE rfl (sE rfl (sE rfl (sE rfl (sE rfl (sE rfl (sE rfl (sE rfl (sE rfl (sE rfl (sE rfl sE0))))))))))) (sH rfl (sH rfl sH0)) (by kernel_rfl)) ?_
        refine aw_condF rfl ?_
        refine aw_skip ?_
        change AW _ _ _ _ _ _
        refine aw_weak (weak_of [(0, .d (.sl vs.length 1 (u16D vs))), (2, .d (.bool pl)), (3, .d (.bool false)), (9, .d (.int .i64 C)), (10, .d (.int .i64 W)), (12, .ptr 1 0), (14, .ptr 2 0), (49, .d (.int .i64 (C * W))), (50, .d (.int .i64 0)), (16, .d (.int .u16 (vs.getD 0 0)))] [(1, some ⟨31, 7, [.d (.int .i64 W), .d (.int .i64 1), .d (.int .i64 C), .d (.int .i64 8), .d (.bool pl), .d (.int .i64 1), .d (.str O)]⟩), (2, some ⟨72, 2, [.d .nilp, .d (.sl 0 0 [])]⟩)] [1, 2] (sE rfl (sE rfl (sE rfl (sE rfl (sE rfl (sE rfl (sE rfl (sE rfl (sE rfl (sE rfl sE0)))))))))) (sH rfl (sH rfl sH0)) (by kernel_rfl)) ?_
        refine aw_region_seq [⟨.d (.int .u16 (vs.getD 0 0)), [], [], []⟩, ⟨.d (.int .u8 ((vs.getD 0 0) % 256)), [], [], []⟩, ⟨.d .nili, [(2, some ⟨72, 2, [.ptr 2 0, .own 3 1 1]⟩), (3, some ⟨5, 1, (u8D [((vs.getD 0 0) % 256)]).map X.d⟩)], [3], [2]⟩] (by kernel_rfl) (by kernel_rfl) (fun id _ => hG id) ?_ ?_
        · exact okY rfl (LT_move rfl rfl) <| okY rfl (LT_conv rfl Try.underlying45 Try.underlying5 rfl (IntKind.wrap_u8 _)) <| okY rfl (LT_call [.ptr 2 0, .d (.int .u8 ((vs.getD 0 0) % 256))] rfl rfl Try.call34 rfl (ct_wb0' 2 3 (by decide) rfl ((vs.getD 0 0) % 256))) <| okE
        change AW _ _ _ _ _ _
        refine aw_weak (weak_of [(0, .d (.sl vs.length 1 (u16D vs))), (2, .d (.bool pl)), (3, .d (.bool false)), (9, .d (.int .i64 C)), (10, .d (.int .i64 W)), (12, .ptr 1 0), (14, .ptr 2 0), (49, .d (.int .i64 (C * W))), (50, .d (.int .i64 0))] [(1, some ⟨31, 7, [.d (.int .i64 W), .d (.int .i64 1), .d (.int .i64 C), .d (.int .i64 8), .d (.bool pl), .d (.int .i64 1), .d (.str O)]⟩), (2, some ⟨72, 2, [.ptr 2 0, .own 3 1 1]⟩), (3, some ⟨5, 1, (u8D [((vs.getD 0 0) % 256)]).map X.d⟩)] [1, 2, 3] (sE rfl (sE rfl (sE rfl (sE rfl (sE rfl (sE rfl (sE rfl (sE rfl (sE rfl sE0))))))))) (sH rfl (sH rfl (sH rfl sH0))) (by simp only [Heap.ids, idsL_d, List.nil_append]; kernel_rfl)) ?_
        refine aw_region_seq [⟨.d (.int .i64 1), [], [], []⟩, ⟨.d (.int .i64 1), [], [], []⟩] (by kernel_rfl) (by kernel_rfl) (fun id _ => hG id) ?_ ?_
        · exact okY rfl (LT_add rfl rfl rfl (by decide)) <| okY rfl (LT_move rfl rfl) <| okE
        refine ⟨(0 + 1), by omega, by omega, ((weak_of [(0, .d (.sl vs.length 1 (u16D vs))), (2, .d (.bool pl)), (3, .d (.bool false)), (9, .d (.int .i64 C)), (10, .d (.int .i64 W)), (12, .ptr 1 0), (14, .ptr 2 0), (49, .d (.int .i64 (C * W))), (50, .d (.int .i64 1))] [(1, some ⟨31, 7, [.d (.int .i64 W), .d (.int .i64 1), .d (.int .i64 C), .d (.int .i64 8), .d (.bool pl), .d (.int .i64 1), .d (.str O)]⟩), (2, some ⟨72, 2, [.ptr 2 0, .own 3 1 1]⟩), (3, some ⟨5, 1, (u8D [((vs.getD 0 0) % 256)]).map X.d⟩)] [1, 2, 3] (sE rfl (sE rfl (sE rfl (sE rfl (sE rfl (sE rfl (sE rfl (sE rfl (sE rfl sE0))))))))) (sH rfl (sH rfl (sH rfl sH0))) (by simp only [Heap.ids, idsL_d, List.nil_append]; kernel_rfl)).trans (weak_swap (fun id => hG id) 3 90)).trans ?_⟩
        exact weak_of _ _ _ (sE rfl (sE rfl (sE rfl (sE rfl (sE rfl (sE rfl (sE rfl (sE rfl (sE rfl sE0))))))))) (sH rfl (sH rfl (sH (by rw [bytL_s1 _ _ _ _ 0]; simp [look, renU, Ob.ren, X.ren, ren_d, sw, vv, bytL_0]) sH0))) (by simp only [Heap.ids, idsL_d, List.nil_append]; kernel_rfl)
      ·
        replace hb2 := of_decide_eq_false hb2
        exfalso; omega
    | k + 1, hJ0 =>
      change AW _ _ _ _ ⟨[(0, .d (.sl vs.length 1 (u16D vs))), (2, .d (.bool pl)), (3, .d (.bool false)), (9, .d (.int .i64 C)), (10, .d (.int .i64 W)), (12, .ptr 1 0), (14, .ptr 2 0), (49, .d (.int .i64 (C * W))), (50, .d (.int .i64 (((k + 1) : Nat) : Int)))], [(1, some ⟨31, 7, [.d (.int .i64 W), .d (.int .i64 1), .d (.int .i64 C), .d (.int .i64 8), .d (.bool pl), .d (.int .i64 1), .d (.str O)]⟩), (2, some ⟨72, 2, [.ptr 2 0, .own 90 (k + 1) 1]⟩), (90, some ⟨5, 1, (u8D (bytL (oneRow W C 8 pl) (vv false vs) (k + 1))).map X.d⟩)], [1, 2, 90]⟩ _
      have hx := vs_bd hvs (k + 1)
      refine aw_seq ?_
      refine aw_region_seq [⟨.d (.bool (decide (((((k + 1) : Nat) : Int) : Int) < (C * W)))), [], [], []⟩] (by kernel_rfl) (by kernel_rfl) (fun id _ => hG id) ?_ ?_
      · exact okY rfl (LT_cmp rfl rfl rfl rfl rfl) <| okE
      change AW _ _ _ _ _ _
      refine aw_weak (weak_of [(0, .d (.sl vs.length 1 (u16D vs))), (2, .d (.bool pl)), (3, .d (.bool false)), (9, .d (.int .i64 C)), (10, .d (.int .i64 W)), (12, .ptr 1 0), (14, .ptr 2 0), (49, .d (.int .i64 (C * W))), (50, .d (.int .i64 (((k + 1) : Nat) : Int))), (51, .d (.bool (decide (((((k + 1) : Nat) : Int) : Int) < (C * W)))))] [(1, some ⟨31, 7, [.d (.int .i64 W), .d (.int .i64 1), .d (.int .i64 C), .d (.int .i64 8), .d (.bool pl), .d (.int .i64 1), .d (.str O)]⟩), (2, some ⟨72, 2, [.ptr 2 0, .own 90 (k + 1) 1]⟩), (90, some ⟨5, 1, (u8D (bytL (oneRow W C 8 pl) (vv false vs) (k + 1))).map X.d⟩)] [1, 2, 90] (sE rfl (sE rfl (sE rfl (sE rfl (sE rfl (sE rfl (sE rfl (sE rfl (sE rfl (sE rfl sE0)))))))))) (sH rfl (sH rfl (sH rfl sH0))) (by simp only [Heap.ids, idsL_d, List.nil_append]; kernel_rfl)) ?_
      refine aw_seq ?_
      refine aw_cond (decide (((((k + 1) : Nat) : Int) : Int) < (C * W))) rfl (fun hb3 => ?_) (fun hb3 => ?_)
      ·
        replace hb3 := of_decide_eq_true hb3
        refine aw_skip ?_
        change AW _ _ _ _ _ _
        refine aw_weak (weak_of [(0, .d (.sl vs.length 1 (u16D vs))), (2, .d (.bool pl)), (3, .d (.bool false)), (9, .d (.int .i64 C)), (10, .d (.int .i64 W)), (12, .ptr 1 0), (14, .ptr 2 0), (49, .d (.int .i64 (C * W))), (50, .d (.int .i64 (((k + 1) : Nat) : Int)))] [(1, some ⟨31, 7, [.d (.int .i64 W), .d (.int .i64 1), .d (.int .i64 C), .d (.int .i64 8), .d (.bool pl), .d (.int .i64 1), .d (.str O)]⟩), (2, some ⟨72, 2, [.ptr 2 0, .own 90 (k + 1) 1]⟩), (90, some ⟨5, 1, (u8D (bytL (oneRow W C 8 pl) (vv false vs) (k + 1))).map X.d⟩)] [1, 2, 90] (sE rfl (sE rfl (sE rfl (sE rfl (sE rfl (sE rfl (sE rfl (sE rfl (sE rfl sE0))))))))) (sH rfl (sH rfl (sH rfl sH0))) (by simp only [Heap.ids, idsL_d, List.nil_append]; kernel_rfl)) ?_
        refine aw_seq ?_
        refine aw_block ?_
        refine aw_seq ?_
        refine aw_region_seq [⟨.d (.int .i64 (((k + 1) : Nat) : Int)), [], [], []⟩, ⟨.d (.int .i64 (((k + 1) : Nat) : Int)), [], [], []⟩] (by kernel_rfl) (by kernel_rfl) (fun id _ => hG id) ?_ ?_
        · exact okY rfl (LT_move rfl rfl) <| okY rfl (LT_assign rfl rfl) <| okE
        change AW _ _ _ _ _ _
        refine aw_weak (weak_of [(0, .d (.sl vs.length 1 (u16D vs))), (2, .d (.bool pl)), (3, .d (.bool false)), (9, .d (.int .i64 C)), (10, .d (.int .i64 W)), (12, .ptr 1 0), (14, .ptr 2 0), (49, .d (.int .i64 (C * W))), (50, .d (.int .i64 (((k + 1) : Nat) : Int))), (15, .d (.int .i64 (((k + 1) : Nat) : Int)))] [(1, some ⟨31, 7, [.d (.int .i64 W), .d (.int .i64 1), .d (.int .i64 C), .d (.int .i64 8), .d (.bool pl), .d (.int .i64 1), .d (.str O)]⟩), (2, some ⟨72, 2, [.ptr 2 0, .own 90 (k + 1) 1]⟩), (90, some ⟨5, 1, (u8D (bytL (oneRow W C 8 pl) (vv false vs) (k + 1))).map X.d⟩)] [1, 2, 90] (sE rfl (sE rfl (sE rfl (sE rfl (sE rfl (sE rfl (sE rfl (sE rfl (sE rfl (sE rfl sE0)))))))))) (sH rfl (sH rfl (sH rfl sH0))) (by simp only [Heap.ids, idsL_d, List.nil_append]; kernel_rfl)) ?_
        refine aw_seq ?_
        refine aw_region_seq [⟨.d (.sl vs.length 1 (u16D vs)), [], [], []⟩, ⟨.d (.int .i64 (((k + 1) : Nat) : Int)), [], [], []⟩, ⟨.dptr [.int .u16 (vs.getD (k + 1) 0)], [], [], []⟩, ⟨.d (.int .u16 (vs.getD (k + 1) 0)), [], [], []⟩, ⟨.d (.int .u16 (vs.getD (k + 1) 0)), [], [], []⟩] (by kernel_rfl) (by kernel_rfl) (fun id _ => hG id) ?_ ?_
        · exact okY rfl (LT_move rfl rfl) <| okY rfl (LT_move rfl rfl) <| okY rfl (LT_indexD rfl rfl rfl Try.underlying22 inf45 rfl (by omega) (by omega) (u16D_at (by omega))) <| okY rfl (LT_loadD 1 rfl rfl Try.underlying45 inf45 (by simp) (.inr ⟨rfl, rfl, rfl⟩)) <| okY rfl (LT_assign rfl rfl) <| okE
        change AW _ _ _ _ _ _
        refine aw_weak (weak_of [(0, .d (.sl vs.length 1 (u16D vs))), (2, .d (.bool pl)), (3, .d (.bool false)), (9, .d (.int .i64 C)), (10, .d (.int .i64 W)), (12, .ptr 1 0), (14, .ptr 2 0), (49, .d (.int .i64 (C * W))), (50, .d (.int .i64 (((k + 1) : Nat) : Int))), (16, .d (.int .u16 (vs.getD (k + 1) 0)))] [(1, some ⟨31, 7, [.d (.int .i64 W), .d (.int .i64 1), .d (.int .i64 C), .d (.int .i64 8), .d (.bool pl), .d (.int .i64 1), .d (.str O)]⟩), (2, some ⟨72, 2, [.ptr 2 0, .own 90 (k + 1) 1]⟩), (90, some ⟨5, 1, (u8D (bytL (oneRow W C 8 pl) (vv false vs) (k + 1))).map X.d⟩)] [1, 2, 90] (sE rfl (sE rfl (sE rfl (sE rfl (sE rfl (sE rfl (sE rfl (sE rfl (sE rfl (sE rfl sE0)))))))))) (sH rfl (sH rfl (sH rfl sH0))) (by simp only [Heap.ids, idsL_d, List.nil_append]; kernel_rfl)) ?_
        refine aw_seq ?_
        refine aw_seq ?_
        refine aw_region_seq [⟨.d (.bool false), [], [], []⟩] (by kernel_rfl) (by kernel_rfl) (fun id _ => hG id) ?_ ?_
        · exact okY rfl (LT_move rfl rfl) <| okE
        change AW _ _ _ _ _ _
        refine aw_weak (weak_of [(0, .d (.sl vs.length 1 (u16D vs))), (2, .d (.bool pl)), (3, .d (.bool false)), (9, .d (.int .i64 C)), (10, .d (.int .i64 W)), (12, .ptr 1 0), (14, .ptr 2 0), (49, .d (.int .i64 (C * W))), (50, .d (.int .i64 (((k + 1) : Nat) : Int))), (16, .d (.int .u16 (vs.getD (k + 1) 0))), (57, .d (.bool false))] [(1, some ⟨31, 7, [.d (.int .i64 W), .d (.int .i64 1), .d (.int .i64 C), .d (.int .i64 8), .d (.bool pl), .d (.int .i64 1), .d (.str O)]⟩), (2, some ⟨72, 2, [.ptr 2 0, .own 90 (k + 1) 1]⟩), (90, some ⟨5, 1, (u8D (bytL (oneRow W C 8 pl) (vv false vs) (k + 1))).map X.d⟩)] [1, 2, 90] (sE rfl (sE rfl (sE rfl (sE rfl (sE rfl (sE rfl (sE rfl (sE rfl (sE rfl (sE rfl (sE rfl sE0))))))))))) (sH rfl (sH rfl (sH rfl sH0))) (by simp only [Heap.ids, idsL_d, List.nil_append]; kernel_rfl)) ?_
        refine aw_condF rfl ?_
        refine aw_skip ?_
        change AW _ _ _ _ _ _
        refine aw_weak (weak_of [(0, .d (.sl vs.length 1 (u16D vs))), (2, .d (.bool pl)), (3, .d (.bool false)), (9, .d (.int .i64 C)), (10, .d (.int .i64 W)), (12, .ptr 1 0), (14, .ptr 2 0), (49, .d (.int .i64 (C * W))), (50, .d (.int .i64 (((k + 1) : Nat) : Int))), (16, .d (.int .u16 (vs.getD (k + 1) 0)))] [(1, some ⟨31, 7, [.d (.int .i64 W), .d (.int .i64 1), .d (.int .i64 C), .d (.int .i64 8), .d (.bool pl), .d (.int .i64 1), .d (.str O)]⟩), (2, some ⟨72, 2, [.ptr 2 0, .own 90 (k + 1) 1]⟩), (90, some ⟨5, 1, (u8D (bytL (oneRow W C 8 pl) (vv false vs) (k + 1))).map X.d⟩)] [1, 2, 90] (sE rfl (sE rfl (sE rfl (sE rfl (sE rfl (sE rfl (sE rfl (sE rfl (sE rfl (sE rfl sE0)))))))))) (sH rfl (sH rfl (sH rfl sH0))) (by simp only [Heap.ids, idsL_d, List.nil_append]; kernel_rfl)) ?_
        refine aw_region_seq [⟨.d (.int .u16 (vs.getD (k + 1) 0)), [], [], []⟩, ⟨.d (.int .u8 ((vs.getD (k + 1) 0) % 256)), [], [], []⟩, ⟨.d .nili, [(2, some ⟨72, 2, [.ptr 2 0, .own 4 ((k + 1) + 1) 1]⟩), (4, some ⟨5, 1, (u8D ((bytL (oneRow W C 8 pl) (vv false vs) (k + 1)) ++ [((vs.getD (k + 1) 0) % 256)])).map X.d⟩), (90, none)], [4], [2, 90]⟩] (by kernel_rfl) (by kernel_rfl) (fun id _ => hG id) ?_ ?_
        · exact okY rfl (LT_move rfl rfl) <| okY rfl (LT_conv rfl Try.underlying45 Try.underlying5 rfl (IntKind.wrap_u8 _)) <| okY rfl (LT_call [.ptr 2 0, .d (.int .u8 ((vs.getD (k + 1) 0) % 256))] rfl rfl Try.call34 rfl (ct_wb1' 2 90 4 (by decide) (by decide) (by decide) (ns := (bytL (oneRow W C 8 pl) (vv false vs) (k + 1))) (bytL_ne1 _ _ _ _ k) (bytL_n1 _ _ _ _ _) (by omega) rfl rfl ((vs.getD (k + 1) 0) % 256))) <| okE
        change AW _ _ _ _ _ _
        refine aw_weak (weak_of [(0, .d (.sl vs.length 1 (u16D vs))), (2, .d (.bool pl)), (3, .d (.bool false)), (9, .d (.int .i64 C)), (10, .d (.int .i64 W)), (12, .ptr 1 0), (14, .ptr 2 0), (49, .d (.int .i64 (C * W))), (50, .d (.int .i64 (((k + 1) : Nat) : Int)))] [(1, some ⟨31, 7, [.d (.int .i64 W), .d (.int .i64 1), .d (.int .i64 C), .d (.int .i64 8), .d (.bool pl), .d (.int .i64 1), .d (.str O)]⟩), (2, some ⟨72, 2, [.ptr 2 0, .own 4 ((k + 1) + 1) 1]⟩), (4, some ⟨5, 1, (u8D ((bytL (oneRow W C 8 pl) (vv false vs) (k + 1)) ++ [((vs.getD (k + 1) 0) % 256)])).map X.d⟩)] [1, 2, 4] (sE rfl (sE rfl (sE rfl (sE rfl (sE rfl (sE rfl (sE rfl (sE rfl (sE rfl sE0))))))))) (sH rfl (sH rfl (sH rfl sH0))) (by simp only [Heap.ids, idsL_d, List.nil_append]; kernel_rfl)) ?_
        refine aw_region_seq [⟨.d (.int .i64 ((((k + 1) : Nat) : Int) + 1)), [], [], []⟩, ⟨.d (.int .i64 ((((k + 1) : Nat) : Int) + 1)), [], [], []⟩] (by kernel_rfl) (by kernel_rfl) (fun id _ => hG id) ?_ ?_
        · exact okY rfl (LT_add rfl rfl rfl (wi64 (by omega) (by omega))) <| okY rfl (LT_move rfl rfl) <| okE
        refine ⟨(k + 1 + 1), by omega, by omega, ((weak_of [(0, .d (.sl vs.length 1 (u16D vs))), (2, .d (.bool pl)), (3, .d (.bool false)), (9, .d (.int .i64 C)), (10, .d (.int .i64 W)), (12, .ptr 1 0), (14, .ptr 2 0), (49, .d (.int .i64 (C * W))), (50, .d (.int .i64 ((((k + 1) : Nat) : Int) + 1)))] [(1, some ⟨31, 7, [.d (.int .i64 W), .d (.int .i64 1), .d (.int .i64 C), .d (.int .i64 8), .d (.bool pl), .d (.int .i64 1), .d (.str O)]⟩), (2, some ⟨72, 2, [.ptr 2 0, .own 4 ((k + 1) + 1) 1]⟩), (4, some ⟨5, 1, (u8D ((bytL (oneRow W C 8 pl) (vv false vs) (k + 1)) ++ [((vs.getD (k + 1) 0) % 256)])).map X.d⟩)] [1, 2, 4] (sE rfl (sE rfl (sE rfl (sE rfl (sE rfl (sE rfl (sE rfl (sE rfl (sE rfl sE0))))))))) (sH rfl (sH rfl (sH rfl sH0))) (by simp only [Heap.ids, idsL_d, List.nil_append]; kernel_rfl)).trans (weak_swap (fun id => hG id) 4 90)).trans ?_⟩
        exact weak_of _ _ _ (sE rfl (sE rfl (sE rfl (sE rfl (sE rfl (sE rfl (sE rfl (sE rfl (sE rfl sE0))))))))) (sH rfl (sH rfl (sH (by rw [bytL_s1 _ _ _ _ (k + 1)]; simp [look, renU, Ob.ren, X.ren, ren_d, sw, vv]) sH0))) (by simp only [Heap.ids, idsL_d, List.nil_append]; kernel_rfl)
      ·
        replace hb3 := of_decide_eq_false hb3
        refine aw_exit ?_
        change AW _ _ _ _ _ _
        refine aw_weak (weak_of [(0, .d (.sl vs.length 1 (u16D vs))), (2, .d (.bool pl)), (3, .d (.bool false)), (9, .d (.int .i64 C)), (10, .d (.int .i64 W)), (12, .ptr 1 0), (14, .ptr 2 0)] [(1, some ⟨31, 7, [.d (.int .i64 W), .d (.int .i64 1), .d (.int .i64 C), .d (.int .i64 8), .d (.bool pl), .d (.int .i64 1), .d (.str O)]⟩), (2, some ⟨72, 2, [.ptr 2 0, .own 90 (k + 1) 1]⟩), (90, some ⟨5, 1, (u8D (bytL (oneRow W C 8 pl) (vv false vs) (k + 1))).map X.d⟩)] [1, 2, 90] (sE rfl (sE rfl (sE rfl (sE rfl (sE rfl (sE rfl (sE rfl sE0))))))) (sH rfl (sH rfl (sH rfl sH0))) (by simp only [Heap.ids, idsL_d, List.nil_append]; kernel_rfl)) ?_
        refine aw_seq ?_
        have hget := fun (x : Int) (x0 : 0 ≤ x) (x1 : x < W) => one_get hok (vv false vs) (vv_rngF hvs) (k := k + 1) (by rw [Int.mul_comm]; omega) x0 x1
        refine aw_region_seq [⟨.d (.str (strD (bytL (oneRow W C 8 pl) (vv false vs) (k + 1)))), [(2, none), (90, none)], [], [2, 90]⟩, ⟨.ptr 1 6, [], [], []⟩, ⟨.tup [], [(1, some ⟨31, 7, [.d (.int .i64 W), .d (.int .i64 1), .d (.int .i64 C), .d (.int .i64 8), .d (.bool pl), .d (.int .i64 1), .d (.str (strD (bytL (oneRow W C 8 pl) (vv false vs) (k + 1))))]⟩)], [], [1]⟩] (by kernel_rfl) (by kernel_rfl) (fun id _ => hG id) ?_ ?_
        · exact okY rfl (LT_call [.ptr 2 0] rfl rfl Try.call35 rfl (ct_str' 2 90 (by decide) (ns := (bytL (oneRow W C 8 pl) (vv false vs) (k + 1))) (bytL_ne1 _ _ _ _ k) (bytL_n1 _ _ _ _ _) (by omega) (by omega) (bytL_rng _ _ _) rfl rfl)) <| okY rfl (LT_fieldAddr rfl rfl Try.underlying31 rfl inf9 (by decide) _ rfl) <| okY rfl (LT_store (ob := ⟨31, 7, [.d (.int .i64 W), .d (.int .i64 1), .d (.int .i64 C), .d (.int .i64 8), .d (.bool pl), .d (.int .i64 1), .d (.str O)]⟩) (x := .d (.str (strD (bytL (oneRow W C 8 pl) (vv false vs) (k + 1))))) rfl rfl rfl (List.Mem.head _) inf9 rfl rfl rfl (by simp [X.cells]) _ rfl) <| okE
        change AW _ _ _ _ _ _
        refine aw_weak (weak_of [(0, .d (.sl vs.length 1 (u16D vs))), (2, .d (.bool pl)), (3, .d (.bool false)), (9, .d (.int .i64 C)), (10, .d (.int .i64 W)), (12, .ptr 1 0)] [(1, some ⟨31, 7, [.d (.int .i64 W), .d (.int .i64 1), .d (.int .i64 C), .d (.int .i64 8), .d (.bool pl), .d (.int .i64 1), .d (.str (strD (bytL (oneRow W C 8 pl) (vv false vs) (k + 1))))]⟩)] [1] (sE rfl (sE rfl (sE rfl (sE rfl (sE rfl (sE rfl sE0)))))) (sH rfl sH0) (by kernel_rfl)) ?_
        refine aw_seq ?_
        refine aw_seq ?_
        refine aw_region_seq [⟨.d (.int .i64 W), [], [], []⟩, ⟨.d (.int .i64 0), [], [], []⟩] (by kernel_rfl) (by kernel_rfl) (fun id _ => hG id) ?_ ?_
        · exact okY rfl (LT_move rfl rfl) <| okY rfl (LT_move rfl rfl) <| okE
        change AW _ _ _ _ _ _
        refine aw_weak (weak_of [(0, .d (.sl vs.length 1 (u16D vs))), (2, .d (.bool pl)), (3, .d (.bool false)), (9, .d (.int .i64 C)), (10, .d (.int .i64 W)), (12, .ptr 1 0), (68, .d (.int .i64 W)), (69, .d (.int .i64 0))] [(1, some ⟨31, 7, [.d (.int .i64 W), .d (.int .i64 1), .d (.int .i64 C), .d (.int .i64 8), .d (.bool pl), .d (.int .i64 1), .d (.str (strD (bytL (oneRow W C 8 pl) (vv false vs) (k + 1))))]⟩)] [1] (sE rfl (sE rfl (sE rfl (sE rfl (sE rfl (sE rfl (sE rfl (sE rfl sE0)))))))) (sH rfl sH0) (by kernel_rfl)) ?_
        refine aw_block ?_
        refine aw_loopJ (fun x => ⟨[(0, .d (.sl vs.length 1 (u16D vs))), (2, .d (.bool pl)), (3, .d (.bool false)), (9, .d (.int .i64 C)), (10, .d (.int .i64 W)), (12, .ptr 1 0), (68, .d (.int .i64 W)), (69, .d (.int .i64 ((x : Nat) : Int)))], [(1, some ⟨31, 7, [.d (.int .i64 W), .d (.int .i64 1), .d (.int .i64 C), .d (.int .i64 8), .d (.bool pl), .d (.int .i64 1), .d (.str (strD (bytL (oneRow W C 8 pl) (vv false vs) (k + 1))))]⟩)], [1]⟩) (fun x => ((x : Nat) : Int) ≤ W) (fun x => W.toNat - x) 0 (by omega) ?_ ?_
        · exact weak_of _ _ _ (sE rfl (sE rfl (sE rfl (sE rfl (sE rfl (sE rfl (sE rfl (sE rfl sE0)))))))) (sH rfl sH0) (by kernel_rfl)
        intro x hJ1
        refine aw_seq ?_
        refine aw_region_seq [⟨.d (.bool (decide ((((x : Nat) : Int) : Int) < W))), [], [], []⟩] (by kernel_rfl) (by kernel_rfl) (fun id _ => hG id) ?_ ?_
        · exact okY rfl (LT_cmp rfl rfl rfl rfl rfl) <| okE
        change AW _ _ _ _ _ _
        refine aw_weak (weak_of [(0, .d (.sl vs.length 1 (u16D vs))), (2, .d (.bool pl)), (3, .d (.bool false)), (9, .d (.int .i64 C)), (10, .d (.int .i64 W)), (12, .ptr 1 0), (68, .d (.int .i64 W)), (69, .d (.int .i64 ((x : Nat) : Int))), (70, .d (.bool (decide ((((x : Nat) : Int) : Int) < W))))] [(1, some ⟨31, 7, [.d (.int .i64 W), .d (.int .i64 1), .d (.int .i64 C), .d (.int .i64 8), .d (.bool pl), .d (.int .i64 1), .d (.str (strD (bytL (oneRow W C 8 pl) (vv false vs) (k + 1))))]⟩)] [1] (sE rfl (sE rfl (sE rfl (sE rfl (sE rfl (sE rfl (sE rfl (sE rfl (sE rfl sE0))))))))) (sH rfl sH0) (by kernel_rfl)) ?_
        refine aw_seq ?_
        refine aw_cond (decide ((((x : Nat) : Int) : Int) < W)) rfl (fun hb4 => ?_) (fun hb4 => ?_)
        ·
          replace hb4 := of_decide_eq_true hb4
          refine aw_skip ?_
          change AW _ _ _ _ _ _
          refine aw_weak (weak_of [(0, .d (.sl vs.length 1 (u16D vs))), (2, .d (.bool pl)), (3, .d (.bool false)), (9, .d (.int .i64 C)), (10, .d (.int .i64 W)), (12, .ptr 1 0), (68, .d (.int .i64 W)), (69, .d (.int .i64 ((x : Nat) : Int)))] [(1, some ⟨31, 7, [.d (.int .i64 W), .d (.int .i64 1), .d (.int .i64 C), .d (.int .i64 8), .d (.bool pl), .d (.int .i64 1), .d (.str (strD (bytL (oneRow W C 8 pl) (vv false vs) (k + 1))))]⟩)] [1] (sE rfl (sE rfl (sE rfl (sE rfl (sE rfl (sE rfl (sE rfl (sE rfl sE0)))))))) (sH rfl sH0) (by kernel_rfl)) ?_
          refine aw_seq ?_
          refine aw_block ?_
          refine aw_seq ?_
          refine aw_region_seq [⟨.d (.int .i64 ((x : Nat) : Int)), [], [], []⟩, ⟨.d (.int .i64 ((x : Nat) : Int)), [], [], []⟩] (by kernel_rfl) (by kernel_rfl) (fun id _ => hG id) ?_ ?_
          · exact okY rfl (LT_move rfl rfl) <| okY rfl (LT_assign rfl rfl) <| okE
          change AW _ _ _ _ _ _
          refine aw_weak (weak_of [(0, .d (.sl vs.length 1 (u16D vs))), (2, .d (.bool pl)), (3, .d (.bool false)), (9, .d (.int .i64 C)), (10, .d (.int .i64 W)), (12, .ptr 1 0), (68, .d (.int .i64 W)), (69, .d (.int .i64 ((x : Nat) : Int))), (17, .d (.int .i64 ((x : Nat) : Int)))] [(1, some ⟨31, 7, [.d (.int .i64 W), .d (.int .i64 1), .d (.int .i64 C), .d (.int .i64 8), .d (.bool pl), .d (.int .i64 1), .d (.str (strD (bytL (oneRow W C 8 pl) (vv false vs) (k + 1))))]⟩)] [1] (sE rfl (sE rfl (sE rfl (sE rfl (sE rfl (sE rfl (sE rfl (sE rfl (sE rfl sE0))))))))) (sH rfl sH0) (by kernel_rfl)) ?_
          refine aw_seq ?_
          refine aw_region_seq [⟨.agg [.d (.int .i64 W), .d (.int .i64 1), .d (.int .i64 C), .d (.int .i64 8), .d (.bool pl), .d (.int .i64 1), .d (.str (strD (bytL (oneRow W C 8 pl) (vv false vs) (k + 1))))], [], [], [1]⟩, ⟨.d (.int .i64 ((x : Nat) : Int)), [], [], []⟩, ⟨.tup [.d (.slw C.toNat 1 (intsD ((List.range C.toNat).map fun c => (vv false vs) (oneIx W C pl ((x : Nat) : Int) (c : Nat))))), .d (.int .i64 0)], [], [], []⟩, ⟨.tup [.d (.slw C.toNat 1 (intsD ((List.range C.toNat).map fun c => (vv false vs) (oneIx W C pl ((x : Nat) : Int) (c : Nat))))), .d (.int .i64 0)], [], [], []⟩, ⟨.d (.slw C.toNat 1 (intsD ((List.range C.toNat).map fun c => (vv false vs) (oneIx W C pl ((x : Nat) : Int) (c : Nat))))), [], [], []⟩, ⟨.d (.int .i64 0), [], [], []⟩, ⟨.d (.slw C.toNat 1 (intsD ((List.range C.toNat).map fun c => (vv false vs) (oneIx W C pl ((x : Nat) : Int) (c : Nat))))), [], [], []⟩, ⟨.d (.int .i64 0), [], [], []⟩] (by kernel_rfl) (by kernel_rfl) (fun id _ => hG id) ?_ ?_
          · exact okY rfl (LT_load 7 rfl rfl rfl (List.Mem.head _) Try.underlying31 inf31 (by simp) (.inl ⟨rfl, rfl, rfl⟩)) <| okY rfl (LT_move rfl rfl) <| okY rfl (LT_call [.agg [.d (.int .i64 W), .d (.int .i64 1), .d (.int .i64 C), .d (.int .i64 8), .d (.bool pl), .d (.int .i64 1), .d (.str (strD (bytL (oneRow W C 8 pl) (vv false vs) (k + 1))))], .d (.int .i64 ((x : Nat) : Int)), .d (.int .i64 0)] rfl rfl Try.call19 rfl ((pc_get' (hget ((x : Nat) : Int) (by omega) (by omega)) (by simp)).ct rfl)) <| okY rfl (LT_move rfl rfl) <| okY rfl (LT_extract rfl rfl rfl) <| okY rfl (LT_extract rfl rfl rfl) <| okY rfl (LT_assign rfl rfl) <| okY rfl (LT_assign rfl rfl) <| okE
          change AW _ _ _ _ _ _
          refine aw_weak (weak_of [(0, .d (.sl vs.length 1 (u16D vs))), (2, .d (.bool pl)), (3, .d (.bool false)), (9, .d (.int .i64 C)), (10, .d (.int .i64 W)), (12, .ptr 1 0), (68, .d (.int .i64 W)), (69, .d (.int .i64 ((x : Nat) : Int))), (17, .d (.int .i64 ((x : Nat) : Int))), (18, .d (.slw C.toNat 1 (intsD ((List.range C.toNat).map fun c => (vv false vs) (oneIx W C pl ((x : Nat) : Int) (c : Nat)))))), (19, .d (.int .i64 0))] [(1, some ⟨31, 7, [.d (.int .i64 W), .d (.int .i64 1), .d (.int .i64 C), .d (.int .i64 8), .d (.bool pl), .d (.int .i64 1), .d (.str (strD (bytL (oneRow W C 8 pl) (vv false vs) (k + 1))))]⟩)] [1] (sE rfl (sE rfl (sE rfl (sE rfl (sE rfl (sE rfl (sE rfl (sE rfl (sE rfl (sE rfl (sE rfl sE0))))))))))) (sH rfl sH0) (by kernel_rfl)) ?_
          refine aw_seq ?_
          refine aw_seq ?_
          refine aw_region_seq [⟨.d (.int .i64 0), [], [], []⟩, ⟨.d (.bool false), [], [], []⟩, ⟨.d (.bool false), [], [], []⟩, ⟨.d (.slw C.toNat 1 (intsD ((List.range C.toNat).map fun c => (vv false vs) (oneIx W C pl ((x : Nat) : Int) (c : Nat))))), [], [], []⟩, ⟨.d (.int .i64 ((C.toNat : Nat) : Int)), [], [], []⟩, ⟨.d (.int .i64 C), [], [], []⟩, ⟨.d (.bool ((((C.toNat : Nat) : Int) : Int) != C)), [], [], []⟩, ⟨.d (.bool ((((C.toNat : Nat) : Int) : Int) != C)), [], [], []⟩] (by kernel_rfl) (by kernel_rfl) (fun id _ => hG id) ?_ ?_
          · exact okY rfl (LT_move rfl rfl) <| okY rfl (LT_cmp rfl rfl rfl rfl rfl) <| okY rfl (LT_move rfl rfl) <| okY rfl (LT_move rfl rfl) <| okY rfl (LT_lenW rfl Try.underlying44 rfl) <| okY rfl (LT_move rfl rfl) <| okY rfl (LT_cmp rfl rfl rfl rfl rfl) <| okY rfl (LT_pick rfl rfl (fun h => by cases h) (fun _ _ _ _ _ h => h)) <| okE
          change AW _ _ _ _ _ _
          refine aw_weak (weak_of [(0, .d (.sl vs.length 1 (u16D vs))), (2, .d (.bool pl)), (3, .d (.bool false)), (9, .d (.int .i64 C)), (10, .d (.int .i64 W)), (12, .ptr 1 0), (68, .d (.int .i64 W)), (69, .d (.int .i64 ((x : Nat) : Int))), (17, .d (.int .i64 ((x : Nat) : Int))), (18, .d (.slw C.toNat 1 (intsD ((List.range C.toNat).map fun c => (vv false vs) (oneIx W C pl ((x : Nat) : Int) (c : Nat)))))), (85, .d (.bool ((((C.toNat : Nat) : Int) : Int) != C)))] [(1, some ⟨31, 7, [.d (.int .i64 W), .d (.int .i64 1), .d (.int .i64 C), .d (.int .i64 8), .d (.bool pl), .d (.int .i64 1), .d (.str (strD (bytL (oneRow W C 8 pl) (vv false vs) (k + 1))))]⟩)] [1] (sE rfl (sE rfl (sE rfl (sE rfl (sE rfl (sE rfl (sE rfl (sE rfl (sE rfl (sE rfl (sE rfl sE0))))))))))) (sH rfl sH0) (by kernel_rfl)) ?_
          refine aw_cond ((((C.toNat : Nat) : Int) : Int) != C) rfl (fun hb5 => ?_) (fun hb5 => ?_)
          ·
            exfalso; simp at hb5; omega
          ·
            refine aw_skip ?_
            change AW _ _ _ _ _ _
            refine aw_weak (weak_of [(0, .d (.sl vs.length 1 (u16D vs))), (2, .d (.bool pl)), (3, .d (.bool false)), (9, .d (.int .i64 C)), (10, .d (.int .i64 W)), (12, .ptr 1 0), (68, .d (.int .i64 W)), (69, .d (.int .i64 ((x : Nat) : Int))), (17, .d (.int .i64 ((x : Nat) : Int))), (18, .d (.slw C.toNat 1 (intsD ((List.range C.toNat).map fun c => (vv false vs) (oneIx W C pl ((x : Nat) : Int) (c : Nat))))))] [(1, some ⟨31, 7, [.d (.int .i64 W), .d (.int .i64 1), .d (.int .i64 C), .d (.int .i64 8), .d (.bool pl), .d (.int .i64 1), .d (.str (strD (bytL (oneRow W C 8 pl) (vv false vs) (k + 1))))]⟩)] [1] (sE rfl (sE rfl (sE rfl (sE rfl (sE rfl (sE rfl (sE rfl (sE rfl (sE rfl (sE rfl sE0)))))))))) (sH rfl sH0) (by kernel_rfl)) ?_
            refine aw_seq ?_
            refine aw_region_seq [⟨.d (.int .i64 C), [], [], []⟩, ⟨.d (.int .i64 0), [], [], []⟩] (by kernel_rfl) (by kernel_rfl) (fun id _ => hG id) ?_ ?_
            · exact okY rfl (LT_move rfl rfl) <| okY rfl (LT_move rfl rfl) <| okE
            change AW _ _ _ _ _ _
            refine aw_weak (weak_of [(0, .d (.sl vs.length 1 (u16D vs))), (2, .d (.bool pl)), (3, .d (.bool false)), (9, .d (.int .i64 C)), (10, .d (.int .i64 W)), (12, .ptr 1 0), (68, .d (.int .i64 W)), (69, .d (.int .i64 ((x : Nat) : Int))), (17, .d (.int .i64 ((x : Nat) : Int))), (18, .d (.slw C.toNat 1 (intsD ((List.range C.toNat).map fun c => (vv false vs) (oneIx W C pl ((x : Nat) : Int) (c : Nat)))))), (86, .d (.int .i64 C)), (87, .d (.int .i64 0))] [(1, some ⟨31, 7, [.d (.int .i64 W), .d (.int .i64 1), .d (.int .i64 C), .d (.int .i64 8), .d (.bool pl), .d (.int .i64 1), .d (.str (strD (bytL (oneRow W C 8 pl) (vv false vs) (k + 1))))]⟩)] [1] (sE rfl (sE rfl (sE rfl (sE rfl (sE rfl (sE rfl (sE rfl (sE rfl (sE rfl (sE rfl (sE rfl (sE rfl sE0)))))))))))) (sH rfl sH0) (by kernel_rfl)) ?_
            refine aw_block ?_
            refine aw_loopJ (fun c => ⟨[(0, .d (.sl vs.length 1 (u16D vs))), (2, .d (.bool pl)), (3, .d (.bool false)), (9, .d (.int .i64 C)), (10, .d (.int .i64 W)), (12, .ptr 1 0), (68, .d (.int .i64 W)), (69, .d (.int .i64 ((x : Nat) : Int))), (17, .d (.int .i64 ((x : Nat) : Int))), (18, .d (.slw C.toNat 1 (intsD ((List.range C.toNat).map fun c => (vv false vs) (oneIx W C pl ((x : Nat) : Int) (c : Nat)))))), (86, .d (.int .i64 C)), (87, .d (.int .i64 ((c : Nat) : Int)))], [(1, some ⟨31, 7, [.d (.int .i64 W), .d (.int .i64 1), .d (.int .i64 C), .d (.int .i64 8), .d (.bool pl), .d (.int .i64 1), .d (.str (strD (bytL (oneRow W C 8 pl) (vv false vs) (k + 1))))]⟩)], [1]⟩) (fun c => ((c : Nat) : Int) ≤ C) (fun c => C.toNat - c) 0 (by omega) ?_ ?_
            · exact weak_of _ _ _ (sE rfl (sE rfl (sE rfl (sE rfl (sE rfl (sE rfl (sE rfl (sE rfl (sE rfl (sE rfl (sE rfl (sE rfl sE0)))))))))))) (sH rfl sH0) (by kernel_rfl)
            intro c hJ2
            refine aw_seq ?_
            refine aw_region_seq [⟨.d (.bool (decide ((((c : Nat) : Int) : Int) < C))), [], [], []⟩] (by kernel_rfl) (by kernel_rfl) (fun id _ => hG id) ?_ ?_
            · exact okY rfl (LT_cmp rfl rfl rfl rfl rfl) <| okE
            change AW _ _ _ _ _ _
            refine aw_weak (weak_of [(0, .d (.sl vs.length 1 (u16D vs))), (2, .d (.bool pl)), (3, .d (.bool false)), (9, .d (.int .i64 C)), (10, .d (.int .i64 W)), (12, .ptr 1 0), (68, .d (.int .i64 W)), (69, .d (.int .i64 ((x : Nat) : Int))), (17, .d (.int .i64 ((x : Nat) : Int))), (18, .d (.slw C.toNat 1 (intsD ((List.range C.toNat).map fun c => (vv false vs) (oneIx W C pl ((x : Nat) : Int) (c : Nat)))))), (86, .d (.int .i64 C)), (87, .d (.int .i64 ((c : Nat) : Int))), (88, .d (.bool (decide ((((c : Nat) : Int) : Int) < C))))] [(1, some ⟨31, 7, [.d (.int .i64 W), .d (.int .i64 1), .d (.int .i64 C), .d (.int .i64 8), .d (.bool pl), .d (.int .i64 1), .d (.str (strD (bytL (oneRow W C 8 pl) (vv false vs) (k + 1))))]⟩)] [1] (sE rfl (sE rfl (sE rfl (sE rfl (sE rfl (sE rfl (sE rfl (sE rfl (sE rfl (sE rfl (sE rfl (sE rfl (sE rfl sE0))))))))))))) (sH rfl sH0) (by kernel_rfl)) ?_
            refine aw_seq ?_
            refine aw_cond (decide ((((c : Nat) : Int) : Int) < C)) rfl (fun hb6 => ?_) (fun hb6 => ?_)
            ·
              replace hb6 := of_decide_eq_true hb6
              refine aw_skip ?_
              change AW _ _ _ _ _ _
              refine aw_weak (weak_of [(0, .d (.sl vs.length 1 (u16D vs))), (2, .d (.bool pl)), (3, .d (.bool false)), (9, .d (.int .i64 C)), (10, .d (.int .i64 W)), (12, .ptr 1 0), (68, .d (.int .i64 W)), (69, .d (.int .i64 ((x : Nat) : Int))), (17, .d (.int .i64 ((x : Nat) : Int))), (18, .d (.slw C.toNat 1 (intsD ((List.range C.toNat).map fun c => (vv false vs) (oneIx W C pl ((x : Nat) : Int) (c : Nat)))))), (86, .d (.int .i64 C)), (87, .d (.int .i64 ((c : Nat) : Int)))] [(1, some ⟨31, 7, [.d (.int .i64 W), .d (.int .i64 1), .d (.int .i64 C), .d (.int .i64 8), .d (.bool pl), .d (.int .i64 1), .d (.str (strD (bytL (oneRow W C 8 pl) (vv false vs) (k + 1))))]⟩)] [1] (sE rfl (sE rfl (sE rfl (sE rfl (sE rfl (sE rfl (sE rfl (sE rfl (sE rfl (sE rfl (sE rfl (sE rfl sE0)))))))))))) (sH rfl sH0) (by kernel_rfl)) ?_
              refine aw_seq ?_
              refine aw_block ?_
              refine aw_seq ?_
              refine aw_region_seq [⟨.d (.int .i64 ((c : Nat) : Int)), [], [], []⟩, ⟨.d (.int .i64 ((c : Nat) : Int)), [], [], []⟩] (by kernel_rfl) (by kernel_rfl) (fun id _ => hG id) ?_ ?_
              · exact okY rfl (LT_move rfl rfl) <| okY rfl (LT_assign rfl rfl) <| okE
              change AW _ _ _ _ _ _
              refine aw_weak (weak_of [(0, .d (.sl vs.length 1 (u16D vs))), (2, .d (.bool pl)), (3, .d (.bool false)), (9, .d (.int .i64 C)), (10, .d (.int .i64 W)), (12, .ptr 1 0), (68, .d (.int .i64 W)), (69, .d (.int .i64 ((x : Nat) : Int))), (17, .d (.int .i64 ((x : Nat) : Int))), (18, .d (.slw C.toNat 1 (intsD ((List.range C.toNat).map fun c => (vv false vs) (oneIx W C pl ((x : Nat) : Int) (c : Nat)))))), (86, .d (.int .i64 C)), (87, .d (.int .i64 ((c : Nat) : Int))), (20, .d (.int .i64 ((c : Nat) : Int)))] [(1, some ⟨31, 7, [.d (.int .i64 W), .d (.int .i64 1), .d (.int .i64 C), .d (.int .i64 8), .d (.bool pl), .d (.int .i64 1), .d (.str (strD (bytL (oneRow W C 8 pl) (vv false vs) (k + 1))))]⟩)] [1] (sE rfl (sE rfl (sE rfl (sE rfl (sE rfl (sE rfl (sE rfl (sE rfl (sE rfl (sE rfl (sE rfl (sE rfl (sE rfl sE0))))))))))))) (sH rfl sH0) (by kernel_rfl)) ?_
              refine aw_seq ?_
              obtain ⟨⟨hl1, hl2⟩, hl3, hl4⟩ := lin_bd (W := W) (C := C) (x := ((x : Nat) : Int)) (c := ((c : Nat) : Int)) (by omega) (by omega) (by omega) (by omega)
              refine aw_region_seq [⟨.d (.int .i64 ((x : Nat) : Int)), [], [], []⟩, ⟨.d (.int .i64 C), [], [], []⟩, ⟨.d (.int .i64 (((x : Nat) : Int) * C)), [], [], []⟩, ⟨.d (.int .i64 ((c : Nat) : Int)), [], [], []⟩, ⟨.d (.int .i64 ((((x : Nat) : Int) * C) + ((c : Nat) : Int))), [], [], []⟩, ⟨.d (.int .i64 ((((x : Nat) : Int) * C) + ((c : Nat) : Int))), [], [], []⟩] (by kernel_rfl) (by kernel_rfl) (fun id _ => hG id) ?_ ?_
              · exact okY rfl (LT_move rfl rfl) <| okY rfl (LT_move rfl rfl) <| okY rfl (LT_mul rfl rfl rfl (wi64 (by omega) (by omega))) <| okY rfl (LT_move rfl rfl) <| okY rfl (LT_add rfl rfl rfl (wi64 (by omega) (by omega))) <| okY rfl (LT_assign rfl rfl) <| okE
              change AW _ _ _ _ _ _
              refine aw_weak (weak_of [(0, .d (.sl vs.length 1 (u16D vs))), (2, .d (.bool pl)), (3, .d (.bool false)), (9, .d (.int .i64 C)), (10, .d (.int .i64 W)), (12, .ptr 1 0), (68, .d (.int .i64 W)), (69, .d (.int .i64 ((x : Nat) : Int))), (17, .d (.int .i64 ((x : Nat) : Int))), (18, .d (.slw C.toNat 1 (intsD ((List.range C.toNat).map fun c => (vv false vs) (oneIx W C pl ((x : Nat) : Int) (c : Nat)))))), (86, .d (.int .i64 C)), (87, .d (.int .i64 ((c : Nat) : Int))), (20, .d (.int .i64 ((c : Nat) : Int))), (21, .d (.int .i64 ((((x : Nat) : Int) * C) + ((c : Nat) : Int))))] [(1, some ⟨31, 7, [.d (.int .i64 W), .d (.int .i64 1), .d (.int .i64 C), .d (.int .i64 8), .d (.bool pl), .d (.int .i64 1), .d (.str (strD (bytL (oneRow W C 8 pl) (vv false vs) (k + 1))))]⟩)] [1] (sE rfl (sE rfl (sE rfl (sE rfl (sE rfl (sE rfl (sE rfl (sE rfl (sE rfl (sE rfl (sE rfl (sE rfl (sE rfl (sE rfl sE0)))))))))))))) (sH rfl sH0) (by kernel_rfl)) ?_
              refine aw_seq ?_
              refine aw_seq ?_
              refine aw_region_seq [⟨.d (.bool pl), [], [], []⟩] (by kernel_rfl) (by kernel_rfl) (fun id _ => hG id) ?_ ?_
              · exact okY rfl (LT_move rfl rfl) <| okE
              change AW _ _ _ _ _ _
              refine aw_weak (weak_of [(0, .d (.sl vs.length 1 (u16D vs))), (2, .d (.bool pl)), (3, .d (.bool false)), (9, .d (.int .i64 C)), (10, .d (.int .i64 W)), (12, .ptr 1 0), (68, .d (.int .i64 W)), (69, .d (.int .i64 ((x : Nat) : Int))), (17, .d (.int .i64 ((x : Nat) : Int))), (18, .d (.slw C.toNat 1 (intsD ((List.range C.toNat).map fun c => (vv false vs) (oneIx W C pl ((x : Nat) : Int) (c : Nat)))))), (86, .d (.int .i64 C)), (87, .d (.int .i64 ((c : Nat) : Int))), (20, .d (.int .i64 ((c : Nat) : Int))), (21, .d (.int .i64 ((((x : Nat) : Int) * C) + ((c : Nat) : Int)))), (95, .d (.bool pl))] [(1, some ⟨31, 7, [.d (.int .i64 W), .d (.int .i64 1), .d (.int .i64 C), .d (.int .i64 8), .d (.bool pl), .d (.int .i64 1), .d (.str (strD (bytL (oneRow W C 8 pl) (vv false vs) (k + 1))))]⟩)] [1] (sE rfl (sE rfl (sE rfl (sE rfl (sE rfl (sE rfl (sE rfl (sE rfl (sE rfl (sE rfl (sE rfl (sE rfl (sE rfl (sE rfl (sE rfl sE0))))))))))))))) (sH rfl sH0) (by kernel_rfl)) ?_
              refine aw_cond pl rfl (fun hb7 => ?_) (fun hb7 => ?_)
              ·
                refine aw_region_seq [⟨.d (.int .i64 ((c : Nat) : Int)), [], [], []⟩, ⟨.d (.int .i64 W), [], [], []⟩, ⟨.d (.int .i64 (((c : Nat) : Int) * W)), [], [], []⟩, ⟨.d (.int .i64 ((x : Nat) : Int)), [], [], []⟩, ⟨.d (.int .i64 ((((c : Nat) : Int) * W) + ((x : Nat) : Int))), [], [], []⟩, ⟨.d (.int .i64 ((((c : Nat) : Int) * W) + ((x : Nat) : Int))), [], [], []⟩] (by kernel_rfl) (by kernel_rfl) (fun id _ => hG id) ?_ ?_
                · exact okY rfl (LT_move rfl rfl) <| okY rfl (LT_move rfl rfl) <| okY rfl (LT_mul rfl rfl rfl (wi64 (by omega) (by omega))) <| okY rfl (LT_move rfl rfl) <| okY rfl (LT_add rfl rfl rfl (wi64 (by omega) (by omega))) <| okY rfl (LT_assign rfl rfl) <| okE
                change AW _ _ _ _ _ _
                refine aw_weak (weak_of [(0, .d (.sl vs.length 1 (u16D vs))), (2, .d (.bool pl)), (3, .d (.bool false)), (9, .d (.int .i64 C)), (10, .d (.int .i64 W)), (12, .ptr 1 0), (68, .d (.int .i64 W)), (69, .d (.int .i64 ((x : Nat) : Int))), (17, .d (.int .i64 ((x : Nat) : Int))), (18, .d (.slw C.toNat 1 (intsD ((List.range C.toNat).map fun c => (vv false vs) (oneIx W C pl ((x : Nat) : Int) (c : Nat)))))), (86, .d (.int .i64 C)), (87, .d (.int .i64 ((c : Nat) : Int))), (20, .d (.int .i64 ((c : Nat) : Int))), (21, .d (.int .i64 ((((c : Nat) : Int) * W) + ((x : Nat) : Int))))] [(1, some ⟨31, 7, [.d (.int .i64 W), .d (.int .i64 1), .d (.int .i64 C), .d (.int .i64 8), .d (.bool pl), .d (.int .i64 1), .d (.str (strD (bytL (oneRow W C 8 pl) (vv false vs) (k + 1))))]⟩)] [1] (sE rfl (sE rfl (sE rfl (sE rfl (sE rfl (sE rfl (sE rfl (sE rfl (sE rfl (sE rfl (sE rfl (sE rfl (sE rfl (sE rfl sE0)))))))))))))) (sH rfl sH0) (by kernel_rfl)) ?_
                refine aw_seq ?_
                have hx := vs_bd hvs ((((c : Nat) : Int) * W) + ((x : Nat) : Int)).toNat
                
                refine aw_region_seq [⟨.d (.sl vs.length 1 (u16D vs)), [], [], []⟩, ⟨.d (.int .i64 ((((c : Nat) : Int) * W) + ((x : Nat) : Int))), [], [], []⟩, ⟨.dptr [.int .u16 (vs.getD ((((c : Nat) : Int) * W) + ((x : Nat) : Int)).toNat 0)], [], [], []⟩, ⟨.d (.int .u16 (vs.getD ((((c : Nat) : Int) * W) + ((x : Nat) : Int)).toNat 0)), [], [], []⟩, ⟨.d (.int .i64 (vs.getD ((((c : Nat) : Int) * W) + ((x : Nat) : Int)).toNat 0)), [], [], []⟩, ⟨.d (.int .i64 (vs.getD ((((c : Nat) : Int) * W) + ((x : Nat) : Int)).toNat 0)), [], [], []⟩] (by kernel_rfl) (by kernel_rfl) (fun id _ => hG id) ?_ ?_
                · exact okY rfl (LT_move rfl rfl) <| okY rfl (LT_move rfl rfl) <| okY rfl (LT_indexD rfl rfl rfl Try.underlying22 inf45 rfl (by omega) (by omega) (u16D_at (by omega))) <| okY rfl (LT_loadD 1 rfl rfl Try.underlying45 inf45 (by simp) (.inr ⟨rfl, rfl, rfl⟩)) <| okY rfl (LT_conv rfl Try.underlying45 Try.underlying3 rfl (wi64 (by omega) (by omega))) <| okY rfl (LT_assign rfl rfl) <| okE
                change AW _ _ _ _ _ _
                refine aw_weak (weak_of [(0, .d (.sl vs.length 1 (u16D vs))), (2, .d (.bool pl)), (3, .d (.bool false)), (9, .d (.int .i64 C)), (10, .d (.int .i64 W)), (12, .ptr 1 0), (68, .d (.int .i64 W)), (69, .d (.int .i64 ((x : Nat) : Int))), (17, .d (.int .i64 ((x : Nat) : Int))), (18, .d (.slw C.toNat 1 (intsD ((List.range C.toNat).map fun c => (vv false vs) (oneIx W C pl ((x : Nat) : Int) (c : Nat)))))), (86, .d (.int .i64 C)), (87, .d (.int .i64 ((c : Nat) : Int))), (20, .d (.int .i64 ((c : Nat) : Int))), (22, .d (.int .i64 (vs.getD ((((c : Nat) : Int) * W) + ((x : Nat) : Int)).toNat 0)))] [(1, some ⟨31, 7, [.d (.int .i64 W), .d (.int .i64 1), .d (.int .i64 C), .d (.int .i64 8), .d (.bool pl), .d (.int .i64 1), .d (.str (strD (bytL (oneRow W C 8 pl) (vv false vs) (k + 1))))]⟩)] [1] (sE rfl (sE rfl (sE rfl (sE rfl (sE rfl (sE rfl (sE rfl (sE rfl (sE rfl (sE rfl (sE rfl (sE rfl (sE rfl (sE rfl sE0)))))))))))))) (sH rfl sH0) (by kernel_rfl)) ?_
                refine aw_seq ?_
                refine aw_seq ?_
                refine aw_region_seq [⟨.d (.bool false), [], [], []⟩, ⟨.d (.bool true), [], [], []⟩] (by kernel_rfl) (by kernel_rfl) (fun id _ => hG id) ?_ ?_
                · exact okY rfl (LT_move rfl rfl) <| okY rfl (LT_not rfl rfl rfl) <| okE
                change AW _ _ _ _ _ _
                refine aw_weak (weak_of [(0, .d (.sl vs.length 1 (u16D vs))), (2, .d (.bool pl)), (3, .d (.bool false)), (9, .d (.int .i64 C)), (10, .d (.int .i64 W)), (12, .ptr 1 0), (68, .d (.int .i64 W)), (69, .d (.int .i64 ((x : Nat) : Int))), (17, .d (.int .i64 ((x : Nat) : Int))), (18, .d (.slw C.toNat 1 (intsD ((List.range C.toNat).map fun c => (vv false vs) (oneIx W C pl ((x : Nat) : Int) (c : Nat)))))), (86, .d (.int .i64 C)), (87, .d (.int .i64 ((c : Nat) : Int))), (20, .d (.int .i64 ((c : Nat) : Int))), (22, .d (.int .i64 (vs.getD ((((c : Nat) : Int) * W) + ((x : Nat) : Int)).toNat 0))), (107, .d (.bool true))] [(1, some ⟨31, 7, [.d (.int .i64 W), .d (.int .i64 1), .d (.int .i64 C), .d (.int .i64 8), .d (.bool pl), .d (.int .i64 1), .d (.str (strD (bytL (oneRow W C 8 pl) (vv false vs) (k + 1))))]⟩)] [1] (sE rfl (sE rfl (sE rfl (sE rfl (sE rfl (sE rfl (sE rfl (sE rfl (sE rfl (sE rfl (sE rfl (sE rfl (sE rfl (sE rfl (sE rfl sE0))))))))))))))) (sH rfl sH0) (by kernel_rfl)) ?_
                refine aw_condT rfl ?_
                refine aw_region_seq [⟨.d (.int .i64 (vs.getD ((((c : Nat) : Int) * W) + ((x : Nat) : Int)).toNat 0)), [], [], []⟩, ⟨.d (.int .i64 ((vs.getD ((((c : Nat) : Int) * W) + ((x : Nat) : Int)).toNat 0) % 256)), [], [], []⟩, ⟨.d (.int .i64 ((vs.getD ((((c : Nat) : Int) * W) + ((x : Nat) : Int)).toNat 0) % 256)), [], [], []⟩] (by kernel_rfl) (by kernel_rfl) (fun id _ => hG id) ?_ ?_
                · exact okY rfl (LT_move rfl rfl) <| okY rfl (LT_rem rfl rfl rfl (by omega) (Int.tmod_eq_emod_of_nonneg (vs_nn hvs _))) <| okY rfl (LT_assign rfl rfl) <| okE
                change AW _ _ _ _ _ _
                refine aw_weak (weak_of [(0, .d (.sl vs.length 1 (u16D vs))), (2, .d (.bool pl)), (3, .d (.bool false)), (9, .d (.int .i64 C)), (10, .d (.int .i64 W)), (12, .ptr 1 0), (68, .d (.int .i64 W)), (69, .d (.int .i64 ((x : Nat) : Int))), (17, .d (.int .i64 ((x : Nat) : Int))), (18, .d (.slw C.toNat 1 (intsD ((List.range C.toNat).map fun c => (vv false vs) (oneIx W C pl ((x : Nat) : Int) (c : Nat)))))), (86, .d (.int .i64 C)), (87, .d (.int .i64 ((c : Nat) : Int))), (20, .d (.int .i64 ((c : Nat) : Int))), (22, .d (.int .i64 ((vs.getD ((((c : Nat) : Int) * W) + ((x : Nat) : Int)).toNat 0) % 256)))] [(1, some ⟨31, 7, [.d (.int .i64 W), .d (.int .i64 1), .d (.int .i64 C), .d (.int .i64 8), .d (.bool pl), .d (.int .i64 1), .d (.str (strD (bytL (oneRow W C 8 pl) (vv false vs) (k + 1))))]⟩)] [1] (sE rfl (sE rfl (sE rfl (sE rfl (sE rfl (sE rfl (sE rfl (sE rfl (sE rfl (sE rfl (sE rfl (sE rfl (sE rfl (sE rfl sE0)))))))))))))) (sH rfl sH0) (by kernel_rfl)) ?_
                refine aw_seq ?_
                refine aw_region_seq [⟨.d (.slw C.toNat 1 (intsD ((List.range C.toNat).map fun c => (vv false vs) (oneIx W C pl ((x : Nat) : Int) (c : Nat))))), [], [], []⟩, ⟨.d (.int .i64 ((c : Nat) : Int)), [], [], []⟩, ⟨.dptr [.int .i64 ((vv false vs) (oneIx W C pl ((x : Nat) : Int) ((c : Nat) : Int)))], [], [], []⟩, ⟨.d (.int .i64 ((vv false vs) (oneIx W C pl ((x : Nat) : Int) ((c : Nat) : Int)))), [], [], []⟩, ⟨.d (.int .i64 ((vs.getD ((((c : Nat) : Int) * W) + ((x : Nat) : Int)).toNat 0) % 256)), [], [], []⟩, ⟨.d (.bool ((((vv false vs) (oneIx W C pl ((x : Nat) : Int) ((c : Nat) : Int))) : Int) != ((vs.getD ((((c : Nat) : Int) * W) + ((x : Nat) : Int)).toNat 0) % 256))), [], [], []⟩] (by kernel_rfl) (by kernel_rfl) (fun id _ => hG id) ?_ ?_
                · exact okY rfl (LT_move rfl rfl) <| okY rfl (LT_move rfl rfl) <| okY rfl (LT_indexW rfl rfl rfl Try.underlying44 inf3 rfl (by omega) (by omega) (intsD_at (by rw [List.getElem?_map, List.getElem?_range (by omega)]; rfl))) <| okY rfl (LT_loadD 1 rfl rfl Try.underlying3 inf3 (by simp) (.inr ⟨rfl, rfl, rfl⟩)) <| okY rfl (LT_move rfl rfl) <| okY rfl (LT_cmp rfl rfl rfl rfl rfl) <| okE
                change AW _ _ _ _ _ _
                refine aw_weak (weak_of [(0, .d (.sl vs.length 1 (u16D vs))), (2, .d (.bool pl)), (3, .d (.bool false)), (9, .d (.int .i64 C)), (10, .d (.int .i64 W)), (12, .ptr 1 0), (68, .d (.int .i64 W)), (69, .d (.int .i64 ((x : Nat) : Int))), (17, .d (.int .i64 ((x : Nat) : Int))), (18, .d (.slw C.toNat 1 (intsD ((List.range C.toNat).map fun c => (vv false vs) (oneIx W C pl ((x : Nat) : Int) (c : Nat)))))), (86, .d (.int .i64 C)), (87, .d (.int .i64 ((c : Nat) : Int))), (115, .d (.bool ((((vv false vs) (oneIx W C pl ((x : Nat) : Int) ((c : Nat) : Int))) : Int) != ((vs.getD ((((c : Nat) : Int) * W) + ((x : Nat) : Int)).toNat 0) % 256))))] [(1, some ⟨31, 7, [.d (.int .i64 W), .d (.int .i64 1), .d (.int .i64 C), .d (.int .i64 8), .d (.bool pl), .d (.int .i64 1), .d (.str (strD (bytL (oneRow W C 8 pl) (vv false vs) (k + 1))))]⟩)] [1] (sE rfl (sE rfl (sE rfl (sE rfl (sE rfl (sE rfl (sE rfl (sE rfl (sE rfl (sE rfl (sE rfl (sE rfl (sE rfl sE0))))))))))))) (sH rfl sH0) (by kernel_rfl)) ?_
                refine aw_cond ((((vv false vs) (oneIx W C pl ((x : Nat) : Int) ((c : Nat) : Int))) : Int) != ((vs.getD ((((c : Nat) : Int) * W) + ((x : Nat) : Int)).toNat 0) % 256)) rfl (fun hb8 => ?_) (fun hb8 => ?_)
                ·
                  exfalso; simp [vv, oneIx, hb7] at hb8
                ·
                  refine aw_skip ?_
                  change AW _ _ _ _ _ _
                  refine aw_weak (weak_of [(0, .d (.sl vs.length 1 (u16D vs))), (2, .d (.bool pl)), (3, .d (.bool false)), (9, .d (.int .i64 C)), (10, .d (.int .i64 W)), (12, .ptr 1 0), (68, .d (.int .i64 W)), (69, .d (.int .i64 ((x : Nat) : Int))), (17, .d (.int .i64 ((x : Nat) : Int))), (18, .d (.slw C.toNat 1 (intsD ((List.range C.toNat).map fun c => (vv false vs) (oneIx W C pl ((x : Nat) : Int) (c : Nat)))))), (86, .d (.int .i64 C)), (87, .d (.int .i64 ((c : Nat) : Int)))] [(1, some ⟨31, 7, [.d (.int .i64 W), .d (.int .i64 1), .d (.int .i64 C), .d (.int .i64 8), .d (.bool pl), .d (.int .i64 1), .d (.str (strD (bytL (oneRow W C 8 pl) (vv false vs) (k + 1))))]⟩)] [1] (sE rfl (sE rfl (sE rfl (sE rfl (sE rfl (sE rfl (sE rfl (sE rfl (sE rfl (sE rfl (sE rfl (sE rfl sE0)))))))))))) (sH rfl sH0) (by kernel_rfl)) ?_
                  refine aw_region_seq [⟨.d (.int .i64 (((c : Nat) : Int) + 1)), [], [], []⟩, ⟨.d (.int .i64 (((c : Nat) : Int) + 1)), [], [], []⟩] (by kernel_rfl) (by kernel_rfl) (fun id _ => hG id) ?_ ?_
                  · exact okY rfl (LT_add rfl rfl rfl (wi64 (by omega) (by omega))) <| okY rfl (LT_move rfl rfl) <| okE
                  exact ⟨(c + 1), by omega, by omega, weak_of _ _ _ (sE rfl (sE rfl (sE rfl (sE rfl (sE rfl (sE rfl (sE rfl (sE rfl (sE rfl (sE rfl (sE rfl (sE rfl sE0)))))))))))) (sH rfl sH0) (by kernel_rfl)⟩
              ·
                refine aw_skip ?_
                change AW _ _ _ _ _ _
                refine aw_weak (weak_of [(0, .d (.sl vs.length 1 (u16D vs))), (2, .d (.bool pl)), (3, .d (.bool false)), (9, .d (.int .i64 C)), (10, .d (.int .i64 W)), (12, .ptr 1 0), (68, .d (.int .i64 W)), (69, .d (.int .i64 ((x : Nat) : Int))), (17, .d (.int .i64 ((x : Nat) : Int))), (18, .d (.slw C.toNat 1 (intsD ((List.range C.toNat).map fun c => (vv false vs) (oneIx W C pl ((x : Nat) : Int) (c : Nat)))))), (86, .d (.int .i64 C)), (87, .d (.int .i64 ((c : Nat) : Int))), (20, .d (.int .i64 ((c : Nat) : Int))), (21, .d (.int .i64 ((((x : Nat) : Int) * C) + ((c : Nat) : Int))))] [(1, some ⟨31, 7, [.d (.int .i64 W), .d (.int .i64 1), .d (.int .i64 C), .d (.int .i64 8), .d (.bool pl), .d (.int .i64 1), .d (.str (strD (bytL (oneRow W C 8 pl) (vv false vs) (k + 1))))]⟩)] [1] (sE rfl (sE rfl (sE rfl (sE rfl (sE rfl (sE rfl (sE rfl (sE rfl (sE rfl (sE rfl (sE rfl (sE rfl (sE rfl (sE rfl sE0)))))))))))))) (sH rfl sH0) (by kernel_rfl)) ?_
                refine aw_seq ?_
                have hx := vs_bd hvs ((((x : Nat) : Int) * C) + ((c : Nat) : Int)).toNat
                
                refine aw_region_seq [⟨.d (.sl vs.length 1 (u16D vs)), [], [], []⟩, ⟨.d (.int .i64 ((((x : Nat) : Int) * C) + ((c : Nat) : Int))), [], [], []⟩, ⟨.dptr [.int .u16 (vs.getD ((((x : Nat) : Int) * C) + ((c : Nat) : Int)).toNat 0)], [], [], []⟩, ⟨.d (.int .u16 (vs.getD ((((x : Nat) : Int) * C) + ((c : Nat) : Int)).toNat 0)), [], [], []⟩, ⟨.d (.int .i64 (vs.getD ((((x : Nat) : Int) * C) + ((c : Nat) : Int)).toNat 0)), [], [], []⟩, ⟨.d (.int .i64 (vs.getD ((((x : Nat) : Int) * C) + ((c : Nat) : Int)).toNat 0)), [], [], []⟩] (by kernel_rfl) (by kernel_rfl) (fun id _ => hG id) ?_ ?_
                · exact okY rfl (LT_move rfl rfl) <| okY rfl (LT_move rfl rfl) <| okY rfl (LT_indexD rfl rfl rfl Try.underlying22 inf45 rfl (by omega) (by omega) (u16D_at (by omega))) <| okY rfl (LT_loadD 1 rfl rfl Try.underlying45 inf45 (by simp) (.inr ⟨rfl, rfl, rfl⟩)) <| okY rfl (LT_conv rfl Try.underlying45 Try.underlying3 rfl (wi64 (by omega) (by omega))) <| okY rfl (LT_assign rfl rfl) <| okE
                change AW _ _ _ _ _ _
                refine aw_weak (weak_of [(0, .d (.sl vs.length 1 (u16D vs))), (2, .d (.bool pl)), (3, .d (.bool false)), (9, .d (.int .i64 C)), (10, .d (.int .i64 W)), (12, .ptr 1 0), (68, .d (.int .i64 W)), (69, .d (.int .i64 ((x : Nat) : Int))), (17, .d (.int .i64 ((x : Nat) : Int))), (18, .d (.slw C.toNat 1 (intsD ((List.range C.toNat).map fun c => (vv false vs) (oneIx W C pl ((x : Nat) : Int) (c : Nat)))))), (86, .d (.int .i64 C)), (87, .d (.int .i64 ((c : Nat) : Int))), (20, .d (.int .i64 ((c : Nat) : Int))), (22, .d (.int .i64 (vs.getD ((((x : Nat) : Int) * C) + ((c : Nat) : Int)).toNat 0)))] [(1, some ⟨31, 7, [.d (.int .i64 W), .d (.int .i64 1), .d (.int .i64 C), .d (.int .i64 8), .d (.bool pl), .d (.int .i64 1), .d (.str (strD (bytL (oneRow W C 8 pl) (vv false vs) (k + 1))))]⟩)] [1] (sE rfl (sE rfl (sE rfl (sE rfl (sE rfl (sE rfl (sE rfl (sE rfl (sE rfl (sE rfl (sE rfl (sE rfl (sE rfl (sE rfl sE0)))))))))))))) (sH rfl sH0) (by kernel_rfl)) ?_
                refine aw_seq ?_
                refine aw_seq ?_
                refine aw_region_seq [⟨.d (.bool false), [], [], []⟩, ⟨.d (.bool true), [], [], []⟩] (by kernel_rfl) (by kernel_rfl) (fun id _ => hG id) ?_ ?_
                · exact okY rfl (LT_move rfl rfl) <| okY rfl (LT_not rfl rfl rfl) <| okE
                change AW _ _ _ _ _ _
                refine aw_weak (weak_of [(0, .d (.sl vs.length 1 (u16D vs))), (2, .d (.bool pl)), (3, .d (.bool false)), (9, .d (.int .i64 C)), (10, .d (.int .i64 W)), (12, .ptr 1 0), (68, .d (.int .i64 W)), (69, .d (.int .i64 ((x : Nat) : Int))), (17, .d (.int .i64 ((x : Nat) : Int))), (18, .d (.slw C.toNat 1 (intsD ((List.range C.toNat).map fun c => (vv false vs) (oneIx W C pl ((x : Nat) : Int) (c : Nat)))))), (86, .d (.int .i64 C)), (87, .d (.int .i64 ((c : Nat) : Int))), (20, .d (.int .i64 ((c : Nat) : Int))), (22, .d (.int .i64 (vs.getD ((((x : Nat) : Int) * C) + ((c : Nat) : Int)).toNat 0))), (107, .d (.bool true))] [(1, some ⟨31, 7, [.d (.int .i64 W), .d (.int .i64 1), .d (.int .i64 C), .d (.int .i64 8), .d (.bool pl), .d (.int .i64 1), .d (.str (strD (bytL (oneRow W C 8 pl) (vv false vs) (k + 1))))]⟩)] [1] (sE rfl (sE rfl (sE rfl (sE rfl (sE rfl (sE rfl (sE rfl (sE rfl (sE rfl (sE rfl (sE rfl (sE rfl (sE rfl (sE rfl (sE rfl sE0))))))))))))))) (sH rfl sH0) (by kernel_rfl)) ?_
                refine aw_condT rfl ?_
                refine aw_region_seq [⟨.d (.int .i64 (vs.getD ((((x : Nat) : Int) * C) + ((c : Nat) : Int)).toNat 0)), [], [], []⟩, ⟨.d (.int .i64 ((vs.getD ((((x : Nat) : Int) * C) + ((c : Nat) : Int)).toNat 0) % 256)), [], [], []⟩, ⟨.d (.int .i64 ((vs.getD ((((x : Nat) : Int) * C) + ((c : Nat) : Int)).toNat 0) % 256)), [], [], []⟩] (by kernel_rfl) (by kernel_rfl) (fun id _ => hG id) ?_ ?_
                · exact okY rfl (LT_move rfl rfl) <| okY rfl (LT_rem rfl rfl rfl (by omega) (Int.tmod_eq_emod_of_nonneg (vs_nn hvs _))) <| okY rfl (LT_assign rfl rfl) <| okE
                change AW _ _ _ _ _ _
                refine aw_weak (weak_of [(0, .d (.sl vs.length 1 (u16D vs))), (2, .d (.bool pl)), (3, .d (.bool false)), (9, .d (.int .i64 C)), (10, .d (.int .i64 W)), (12, .ptr 1 0), (68, .d (.int .i64 W)), (69, .d (.int .i64 ((x : Nat) : Int))), (17, .d (.int .i64 ((x : Nat) : Int))), (18, .d (.slw C.toNat 1 (intsD ((List.range C.toNat).map fun c => (vv false vs) (oneIx W C pl ((x : Nat) : Int) (c : Nat)))))), (86, .d (.int .i64 C)), (87, .d (.int .i64 ((c : Nat) : Int))), (20, .d (.int .i64 ((c : Nat) : Int))), (22, .d (.int .i64 ((vs.getD ((((x : Nat) : Int) * C) + ((c : Nat) : Int)).toNat 0) % 256)))] [(1, some ⟨31, 7, [.d (.int .i64 W), .d (.int .i64 1), .d (.int .i64 C), .d (.int .i64 8), .d (.bool pl), .d (.int .i64 1), .d (.str (strD (bytL (oneRow W C 8 pl) (vv false vs) (k + 1))))]⟩)] [1] (sE rfl (sE rfl (sE rfl (sE rfl (sE rfl (sE rfl (sE rfl (sE rfl (sE rfl (sE rfl (sE rfl (sE rfl (sE rfl (sE rfl sE0)))))))))))))) (sH rfl sH0) (by kernel_rfl)) ?_
                refine aw_seq ?_
                refine aw_region_seq [⟨.d (.slw C.toNat 1 (intsD ((List.range C.toNat).map fun c => (vv false vs) (oneIx W C pl ((x : Nat) : Int) (c : Nat))))), [], [], []⟩, ⟨.d (.int .i64 ((c : Nat) : Int)), [], [], []⟩, ⟨.dptr [.int .i64 ((vv false vs) (oneIx W C pl ((x : Nat) : Int) ((c : Nat) : Int)))], [], [], []⟩, ⟨.d (.int .i64 ((vv false vs) (oneIx W C pl ((x : Nat) : Int) ((c : Nat) : Int)))), [], [], []⟩, ⟨.d (.int .i64 ((vs.getD ((((x : Nat) : Int) * C) + ((c : Nat) : Int)).toNat 0) % 256)), [], [], []⟩, ⟨.d (.bool ((((vv false vs) (oneIx W C pl ((x : Nat) : Int) ((c : Nat) : Int))) : Int) != ((vs.getD ((((x : Nat) : Int) * C) + ((c : Nat) : Int)).toNat 0) % 256))), [], [], []⟩] (by kernel_rfl) (by kernel_rfl) (fun id _ => hG id) ?_ ?_
                · exact okY rfl (LT_move rfl rfl) <| okY rfl (LT_move rfl rfl) <| okY rfl (LT_indexW rfl rfl rfl Try.underlying44 inf3 rfl (by omega) (by omega) (intsD_at (by rw [List.getElem?_map, List.getElem?_range (by omega)]; rfl))) <| okY rfl (LT_loadD 1 rfl rfl Try.underlying3 inf3 (by simp) (.inr ⟨rfl, rfl, rfl⟩)) <| okY rfl (LT_move rfl rfl) <| okY rfl (LT_cmp rfl rfl rfl rfl rfl) <| okE
                change AW _ _ _ _ _ _
                refine aw_weak (weak_of [(0, .d (.sl vs.length 1 (u16D vs))), (2, .d (.bool pl)), (3, .d (.bool false)), (9, .d (.int .i64 C)), (10, .d (.int .i64 W)), (12, .ptr 1 0), (68, .d (.int .i64 W)), (69, .d (.int .i64 ((x : Nat) : Int))), (17, .d (.int .i64 ((x : Nat) : Int))), (18, .d (.slw C.toNat 1 (intsD ((List.range C.toNat).map fun c => (vv false vs) (oneIx W C pl ((x : Nat) : Int) (c : Nat)))))), (86, .d (.int .i64 C)), (87, .d (.int .i64 ((c : Nat) : Int))), (115, .d (.bool ((((vv false vs) (oneIx W C pl ((x : Nat) : Int) ((c : Nat) : Int))) : Int) != ((vs.getD ((((x : Nat) : Int) * C) + ((c : Nat) : Int)).toNat 0) % 256))))] [(1, some ⟨31, 7, [.d (.int .i64 W), .d (.int .i64 1), .d (.int .i64 C), .d (.int .i64 8), .d (.bool pl), .d (.int .i64 1), .d (.str (strD (bytL (oneRow W C 8 pl) (vv false vs) (k + 1))))]⟩)] [1] (sE rfl (sE rfl (sE rfl (sE rfl (sE rfl (sE rfl (sE rfl (sE rfl (sE rfl (sE rfl (sE rfl (sE rfl (sE rfl sE0))))))))))))) (sH rfl sH0) (by kernel_rfl)) ?_
                refine aw_cond ((((vv false vs) (oneIx W C pl ((x : Nat) : Int) ((c : Nat) : Int))) : Int) != ((vs.getD ((((x : Nat) : Int) * C) + ((c : Nat) : Int)).toNat 0) % 256)) rfl (fun hb9 => ?_) (fun hb9 => ?_)
                ·
                  exfalso; simp [vv, oneIx, hb7] at hb9
                ·
                  refine aw_skip ?_
                  change AW _ _ _ _ _ _
                  refine aw_weak (weak_of [(0, .d (.sl vs.length 1 (u16D vs))), (2, .d (.bool pl)), (3, .d (.bool false)), (9, .d (.int .i64 C)), (10, .d (.int .i64 W)), (12, .ptr 1 0), (68, .d (.int .i64 W)), (69, .d (.int .i64 ((x : Nat) : Int))), (17, .d (.int .i64 ((x : Nat) : Int))), (18, .d (.slw C.toNat 1 (intsD ((List.range C.toNat).map fun c => (vv false vs) (oneIx W C pl ((x : Nat) : Int) (c : Nat)))))), (86, .d (.int .i64 C)), (87, .d (.int .i64 ((c : Nat) : Int)))] [(1, some ⟨31, 7, [.d (.int .i64 W), .d (.int .i64 1), .d (.int .i64 C), .d (.int .i64 8), .d (.bool pl), .d (.int .i64 1), .d (.str (strD (bytL (oneRow W C 8 pl) (vv false vs) (k + 1))))]⟩)] [1] (sE rfl (sE rfl (sE rfl (sE rfl (sE rfl (sE rfl (sE rfl (sE rfl (sE rfl (sE rfl (sE rfl (sE rfl sE0)))))))))))) (sH rfl sH0) (by kernel_rfl)) ?_
                  refine aw_region_seq [⟨.d (.int .i64 (((c : Nat) : Int) + 1)), [], [], []⟩, ⟨.d (.int .i64 (((c : Nat) : Int) + 1)), [], [], []⟩] (by kernel_rfl) (by kernel_rfl) (fun id _ => hG id) ?_ ?_
                  · exact okY rfl (LT_add rfl rfl rfl (wi64 (by omega) (by omega))) <| okY rfl (LT_move rfl rfl) <| okE
                  exact ⟨(c + 1), by omega, by omega, weak_of _ _ _ (sE rfl (sE rfl (sE rfl (sE rfl (sE rfl (sE rfl (sE rfl (sE rfl (sE rfl (sE rfl (sE rfl (sE rfl sE0)))))))))))) (sH rfl sH0) (by kernel_rfl)⟩
            ·
              replace hb6 := of_decide_eq_false hb6
              refine aw_exit ?_
              change AW _ _ _ _ _ _
              refine aw_weak (weak_of [(0, .d (.sl vs.length 1 (u16D vs))), (2, .d (.bool pl)), (3, .d (.bool false)), (9, .d (.int .i64 C)), (10, .d (.int .i64 W)), (12, .ptr 1 0), (68, .d (.int .i64 W)), (69, .d (.int .i64 ((x : Nat) : Int)))] [(1, some ⟨31, 7, [.d (.int .i64 W), .d (.int .i64 1), .d (.int .i64 C), .d (.int .i64 8), .d (.bool pl), .d (.int .i64 1), .d (.str (strD (bytL (oneRow W C 8 pl) (vv false vs) (k + 1))))]⟩)] [1] (sE rfl (sE rfl (sE rfl (sE rfl (sE rfl (sE rfl (sE rfl (sE rfl sE0)))))))) (sH rfl sH0) (by kernel_rfl)) ?_
              refine aw_region_seq [⟨.d (.int .i64 (((x : Nat) : Int) + 1)), [], [], []⟩, ⟨.d (.int .i64 (((x : Nat) : Int) + 1)), [], [], []⟩] (by kernel_rfl) (by kernel_rfl) (fun id _ => hG id) ?_ ?_
              · exact okY rfl (LT_add rfl rfl rfl (wi64 (by omega) (by omega))) <| okY rfl (LT_move rfl rfl) <| okE
              exact ⟨(x + 1), by omega, by omega, weak_of _ _ _ (sE rfl (sE rfl (sE rfl (sE rfl (sE rfl (sE rfl (sE rfl (sE rfl sE0)))))))) (sH rfl sH0) (by kernel_rfl)⟩
        ·
          replace hb4 := of_decide_eq_false hb4
          refine aw_exit ?_
          change AW _ _ _ _ _ _
          refine aw_weak (weak_of [] [] [] sE0 sH0 (by kernel_rfl)) ?_
          refine aw_seq ?_
          refine aw_region_seq [⟨.d (.bool true), [], [], []⟩] (by kernel_rfl) (by kernel_rfl) (fun id _ => hG id) ?_ ?_
          · exact okY rfl (LT_assign rfl rfl) <| okE
          change AW _ _ _ _ _ _
          refine aw_weak (weak_of [(8, .d (.bool true))] [] [] (sE rfl sE0) sH0 (by kernel_rfl)) ?_
          refine aw_ret ?_
          refine fin1 (x := .d (.bool true)) (.inl rfl) Try.results10 rfl ?_
          exact rfl

end Go.Proofs.Ytphfbjeaklpddaa
