/-
  Joined texts: Layer 42: two images with the same pixels are alike. · Layer 42, the plain law: what the functions answer for images by functions. · Layer 42, the plain law: what becomes of samples when the layout turns. · Layer 42, the plain law: parts cut out and pasted. · Layer 42: ImageParts.
-/
import Derived.Test.YtphfbjeaklpddaaQP7
import Derived.Test.YtphfbjeaklpddaaQP5
set_option linter.unusedSimpArgs false
set_option linter.unusedVariables false

/- Layer 42: two images with the same pixels are alike. -/
namespace Go.Proofs.Ytphfbjeaklpddaa
open Go.RowKit


set_option maxRecDepth 100000 in
set_option maxHeartbeats 2000000 in
theorem alike_pc (Wn Hn Cn : Nat) (B1 B2 P1 P2 : Int) (pl1 pl2 : Bool) (O1 O2 : ByteArray) (l : Nat → Nat → List Int) (hW : Wn ≤ 64) (hH : Hn ≤ 64) (hC : Cn ≤ 4) (hl : ∀ i j, (l i j).length = Cn)
    (hg1 : ∀ i j : Nat, i < Wn → j < Hn → getR ⟨⟨Wn, Hn, Cn, B1, pl1, P1⟩, O1⟩ i j = (l i j, 0)) (hg2 : ∀ i j : Nat, i < Wn → j < Hn → getR ⟨⟨Wn, Hn, Cn, B2, pl2, P2⟩, O2⟩ i j = (l i j, 0)) : PC Try.prog 26 [.agg [.d (.int .i64 ((Wn : Nat) : Int)), .d (.int .i64 ((Hn : Nat) : Int)), .d (.int .i64 ((Cn : Nat) : Int)), .d (.int .i64 B1), .d (.bool pl1), .d (.int .i64 P1), .d (.str O1)], .agg [.d (.int .i64 ((Wn : Nat) : Int)), .d (.int .i64 ((Hn : Nat) : Int)), .d (.int .i64 ((Cn : Nat) : Int)), .d (.int .i64 B2), .d (.bool pl2), .d (.int .i64 P2), .d (.str O2)]] (.d (.bool true)) := by
  refine PC_of (fn := Try.f26) Try.func26 rfl (by simp [Try.ntmps26]) (by kernel_rfl) fun G hG => ?_
  rw [Try.ntmps26]
  refine aw_seq ?_
  refine aw_region_seq [⟨.ptr 1 0, [(1, some ⟨31, 7, [.d (.int .i64 ((Wn : Nat) : Int)), .d (.int .i64 ((Hn : Nat) : Int)), .d (.int .i64 ((Cn : Nat) : Int)), .d (.int .i64 B1), .d (.bool pl1), .d (.int .i64 P1), .d (.str O1)]⟩)], [1], []⟩, ⟨.ptr 2 0, [(2, some ⟨31, 7, [.d (.int .i64 ((Wn : Nat) : Int)), .d (.int .i64 ((Hn : Nat) : Int)), .d (.int .i64 ((Cn : Nat) : Int)), .d (.int .i64 B2), .d (.bool pl2), .d (.int .i64 P2), .d (.str O2)]⟩)], [2], []⟩, ⟨.d (.bool false), [], [], []⟩] (by kernel_rfl) (by kernel_rfl) (fun id _ => hG id) ?_ ?_
  · exact okY rfl (LT_box (x := .agg [.d (.int .i64 ((Wn : Nat) : Int)), .d (.int .i64 ((Hn : Nat) : Int)), .d (.int .i64 ((Cn : Nat) : Int)), .d (.int .i64 B1), .d (.bool pl1), .d (.int .i64 P1), .d (.str O1)]) 1 rfl rfl rfl 7 rfl (List.Mem.head _)) <| okY rfl (LT_box (x := .agg [.d (.int .i64 ((Wn : Nat) : Int)), .d (.int .i64 ((Hn : Nat) : Int)), .d (.int .i64 ((Cn : Nat) : Int)), .d (.int .i64 B2), .d (.bool pl2), .d (.int .i64 P2), .d (.str O2)]) 2 rfl rfl rfl 7 rfl (List.Mem.head _)) <| okY rfl (LT_assign rfl rfl) <| okE
  change AW _ _ _ _ _ _
  refine aw_weak (weak_of [(2, .ptr 1 0), (3, .ptr 2 0)] [(1, some ⟨31, 7, [.d (.int .i64 ((Wn : Nat) : Int)), .d (.int .i64 ((Hn : Nat) : Int)), .d (.int .i64 ((Cn : Nat) : Int)), .d (.int .i64 B1), .d (.bool pl1), .d (.int .i64 P1), .d (.str O1)]⟩), (2, some ⟨31, 7, [.d (.int .i64 ((Wn : Nat) : Int)), .d (.int .i64 ((Hn : Nat) : Int)), .d (.int .i64 ((Cn : Nat) : Int)), .d (.int .i64 B2), .d (.bool pl2), .d (.int .i64 P2), .d (.str O2)]⟩)] [1, 2] (sE rfl (sE rfl sE0)) (sH rfl (sH rfl sH0)) (by kernel_rfl)) ?_
  refine aw_seq ?_
  refine aw_seq ?_
  refine aw_region_seq [⟨.ptr 1 0, [], [], []⟩, ⟨.d (.int .i64 ((Wn : Nat) : Int)), [], [], [1]⟩, ⟨.ptr 2 0, [], [], []⟩, ⟨.d (.int .i64 ((Wn : Nat) : Int)), [], [], [2]⟩, ⟨.d (.bool false), [], [], []⟩, ⟨.d (.bool false), [], [], []⟩, ⟨.ptr 1 1, [], [], []⟩, ⟨.d (.int .i64 ((Hn : Nat) : Int)), [], [], [1]⟩, ⟨.ptr 2 1, [], [], []⟩, ⟨.d (.int .i64 ((Hn : Nat) : Int)), [], [], [2]⟩, ⟨.d (.bool false), [], [], []⟩, ⟨.d (.bool false), [], [], []⟩, ⟨.d (.bool false), [], [], []⟩, ⟨.ptr 1 2, [], [], []⟩, ⟨.d (.int .i64 ((Cn : Nat) : Int)), [], [], [1]⟩, ⟨.ptr 2 2, [], [], []⟩, ⟨.d (.int .i64 ((Cn : Nat) : Int)), [], [], [2]⟩, ⟨.d (.bool false), [], [], []⟩, ⟨.d (.bool false), [], [], []⟩] (by kernel_rfl) (by kernel_rfl) (fun id _ => hG id) ?_ ?_
  · exact okY rfl (LT_fieldAddr rfl rfl Try.underlying31 rfl inf3 (by decide) _ rfl) <| okY rfl (LT_load 1 rfl rfl rfl (List.Mem.head _) Try.underlying3 inf3 (by simp) (.inr ⟨rfl, rfl, rfl⟩)) <| okY rfl (LT_fieldAddr rfl rfl Try.underlying31 rfl inf3 (by decide) _ rfl) <| okY rfl (LT_load 1 rfl rfl rfl (List.Mem.head _) Try.underlying3 inf3 (by simp) (.inr ⟨rfl, rfl, rfl⟩)) <| okY rfl (LT_cmp rfl rfl rfl rfl (by simp [cmpI])) <| okY rfl (LT_move rfl rfl) <| okY rfl (LT_fieldAddr rfl rfl Try.underlying31 rfl inf3 (by decide) _ rfl) <| okY rfl (LT_load 1 rfl rfl rfl (List.Mem.head _) Try.underlying3 inf3 (by simp) (.inr ⟨rfl, rfl, rfl⟩)) <| okY rfl (LT_fieldAddr rfl rfl Try.underlying31 rfl inf3 (by decide) _ rfl) <| okY rfl (LT_load 1 rfl rfl rfl (List.Mem.head _) Try.underlying3 inf3 (by simp) (.inr ⟨rfl, rfl, rfl⟩)) <| okY rfl (LT_cmp rfl rfl rfl rfl (by simp [cmpI])) <| okY rfl (LT_pick rfl rfl (fun h => by cases h) (fun _ _ _ _ _ h => h)) <| okY rfl (LT_move rfl rfl) <| okY rfl (LT_fieldAddr rfl rfl Try.underlying31 rfl inf3 (by decide) _ rfl) <| okY rfl (LT_load 1 rfl rfl rfl (List.Mem.head _) Try.underlying3 inf3 (by simp) (.inr ⟨rfl, rfl, rfl⟩)) <| okY rfl (LT_fieldAddr rfl rfl Try.underlying31 rfl inf3 (by decide) _ rfl) <| okY rfl (LT_load 1 rfl rfl rfl (List.Mem.head _) Try.underlying3 inf3 (by simp) (.inr ⟨rfl, rfl, rfl⟩)) <| okY rfl (LT_cmp rfl rfl rfl rfl (by simp [cmpI])) <| okY rfl (LT_pick rfl rfl (fun h => by cases h) (fun _ _ _ _ _ h => h)) <| okE
  change AW _ _ _ _ _ _
  refine aw_weak (weak_of [(2, .ptr 1 0), (3, .ptr 2 0), (29, .d (.bool false))] [(1, some ⟨31, 7, [.d (.int .i64 ((Wn : Nat) : Int)), .d (.int .i64 ((Hn : Nat) : Int)), .d (.int .i64 ((Cn : Nat) : Int)), .d (.int .i64 B1), .d (.bool pl1), .d (.int .i64 P1), .d (.str O1)]⟩), (2, some ⟨31, 7, [.d (.int .i64 ((Wn : Nat) : Int)), .d (.int .i64 ((Hn : Nat) : Int)), .d (.int .i64 ((Cn : Nat) : Int)), .d (.int .i64 B2), .d (.bool pl2), .d (.int .i64 P2), .d (.str O2)]⟩)] [1, 2] (sE rfl (sE rfl (sE rfl sE0))) (sH rfl (sH rfl sH0)) (by kernel_rfl)) ?_
  refine aw_condF rfl ?_
  refine aw_skip ?_
  change AW _ _ _ _ _ _
  refine aw_weak (weak_of [(2, .ptr 1 0), (3, .ptr 2 0)] [(1, some ⟨31, 7, [.d (.int .i64 ((Wn : Nat) : Int)), .d (.int .i64 ((Hn : Nat) : Int)), .d (.int .i64 ((Cn : Nat) : Int)), .d (.int .i64 B1), .d (.bool pl1), .d (.int .i64 P1), .d (.str O1)]⟩), (2, some ⟨31, 7, [.d (.int .i64 ((Wn : Nat) : Int)), .d (.int .i64 ((Hn : Nat) : Int)), .d (.int .i64 ((Cn : Nat) : Int)), .d (.int .i64 B2), .d (.bool pl2), .d (.int .i64 P2), .d (.str O2)]⟩)] [1, 2] (sE rfl (sE rfl sE0)) (sH rfl (sH rfl sH0)) (by kernel_rfl)) ?_
  refine aw_seq ?_
  refine aw_seq ?_
  refine aw_region_seq [⟨.ptr 1 1, [], [], []⟩, ⟨.d (.int .i64 ((Hn : Nat) : Int)), [], [], [1]⟩, ⟨.d (.int .i64 0), [], [], []⟩] (by kernel_rfl) (by kernel_rfl) (fun id _ => hG id) ?_ ?_
  · exact okY rfl (LT_fieldAddr rfl rfl Try.underlying31 rfl inf3 (by decide) _ rfl) <| okY rfl (LT_load 1 rfl rfl rfl (List.Mem.head _) Try.underlying3 inf3 (by simp) (.inr ⟨rfl, rfl, rfl⟩)) <| okY rfl (LT_move rfl rfl) <| okE
  change AW _ _ _ _ _ _
  refine aw_weak (weak_of [(2, .ptr 1 0), (3, .ptr 2 0), (31, .d (.int .i64 ((Hn : Nat) : Int))), (32, .d (.int .i64 0))] [(1, some ⟨31, 7, [.d (.int .i64 ((Wn : Nat) : Int)), .d (.int .i64 ((Hn : Nat) : Int)), .d (.int .i64 ((Cn : Nat) : Int)), .d (.int .i64 B1), .d (.bool pl1), .d (.int .i64 P1), .d (.str O1)]⟩), (2, some ⟨31, 7, [.d (.int .i64 ((Wn : Nat) : Int)), .d (.int .i64 ((Hn : Nat) : Int)), .d (.int .i64 ((Cn : Nat) : Int)), .d (.int .i64 B2), .d (.bool pl2), .d (.int .i64 P2), .d (.str O2)]⟩)] [1, 2] (sE rfl (sE rfl (sE rfl (sE rfl sE0)))) (sH rfl (sH rfl sH0)) (by kernel_rfl)) ?_
  refine aw_block ?_
  refine aw_loopJ (fun j => ⟨[(2, .ptr 1 0), (3, .ptr 2 0), (31, .d (.int .i64 ((Hn : Nat) : Int))), (32, .d (.int .i64 ((j : Nat) : Int)))], [(1, some ⟨31, 7, [.d (.int .i64 ((Wn : Nat) : Int)), .d (.int .i64 ((Hn : Nat) : Int)), .d (.int .i64 ((Cn : Nat) : Int)), .d (.int .i64 B1), .d (.bool pl1), .d (.int .i64 P1), .d (.str O1)]⟩), (2, some ⟨31, 7, [.d (.int .i64 ((Wn : Nat) : Int)), .d (.int .i64 ((Hn : Nat) : Int)), .d (.int .i64 ((Cn : Nat) : Int)), .d (.int .i64 B2), .d (.bool pl2), .d (.int .i64 P2), .d (.str O2)]⟩)], [1, 2]⟩) (fun j => j ≤ Hn) (fun j => Hn - j) 0 (Nat.zero_le _) ?_ ?_
  · exact weak_of _ _ _ (sE rfl (sE rfl (sE rfl (sE rfl sE0)))) (sH rfl (sH rfl sH0)) (by kernel_rfl)
  intro j hJ0
  refine aw_seq ?_
  refine aw_region_seq [⟨.d (.bool (decide ((((j : Nat) : Int) : Int) < ((Hn : Nat) : Int)))), [], [], []⟩] (by kernel_rfl) (by kernel_rfl) (fun id _ => hG id) ?_ ?_
  · exact okY rfl (LT_cmp rfl rfl rfl rfl rfl) <| okE
  change AW _ _ _ _ _ _
  refine aw_weak (weak_of [(2, .ptr 1 0), (3, .ptr 2 0), (31, .d (.int .i64 ((Hn : Nat) : Int))), (32, .d (.int .i64 ((j : Nat) : Int))), (33, .d (.bool (decide ((((j : Nat) : Int) : Int) < ((Hn : Nat) : Int)))))] [(1, some ⟨31, 7, [.d (.int .i64 ((Wn : Nat) : Int)), .d (.int .i64 ((Hn : Nat) : Int)), .d (.int .i64 ((Cn : Nat) : Int)), .d (.int .i64 B1), .d (.bool pl1), .d (.int .i64 P1), .d (.str O1)]⟩), (2, some ⟨31, 7, [.d (.int .i64 ((Wn : Nat) : Int)), .d (.int .i64 ((Hn : Nat) : Int)), .d (.int .i64 ((Cn : Nat) : Int)), .d (.int .i64 B2), .d (.bool pl2), .d (.int .i64 P2), .d (.str O2)]⟩)] [1, 2] (sE rfl (sE rfl (sE rfl (sE rfl (sE rfl sE0))))) (sH rfl (sH rfl sH0)) (by kernel_rfl)) ?_
  refine aw_seq ?_
  refine aw_cond (decide ((((j : Nat) : Int) : Int) < ((Hn : Nat) : Int))) rfl (fun hb1 => ?_) (fun hb1 => ?_)
  ·
    replace hb1 := of_decide_eq_true hb1
    refine aw_skip ?_
    change AW _ _ _ _ _ _
    refine aw_weak (weak_of [(2, .ptr 1 0), (3, .ptr 2 0), (31, .d (.int .i64 ((Hn : Nat) : Int))), (32, .d (.int .i64 ((j : Nat) : Int)))] [(1, some ⟨31, 7, [.d (.int .i64 ((Wn : Nat) : Int)), .d (.int .i64 ((Hn : Nat) : Int)), .d (.int .i64 ((Cn : Nat) : Int)), .d (.int .i64 B1), .d (.bool pl1), .d (.int .i64 P1), .d (.str O1)]⟩), (2, some ⟨31, 7, [.d (.int .i64 ((Wn : Nat) : Int)), .d (.int .i64 ((Hn : Nat) : Int)), .d (.int .i64 ((Cn : Nat) : Int)), .d (.int .i64 B2), .d (.bool pl2), .d (.int .i64 P2), .d (.str O2)]⟩)] [1, 2] (sE rfl (sE rfl (sE rfl (sE rfl sE0)))) (sH rfl (sH rfl sH0)) (by kernel_rfl)) ?_
    refine aw_seq ?_
    refine aw_block ?_
    refine aw_seq ?_
    refine aw_region_seq [⟨.d (.int .i64 ((j : Nat) : Int)), [], [], []⟩, ⟨.d (.int .i64 ((j : Nat) : Int)), [], [], []⟩] (by kernel_rfl) (by kernel_rfl) (fun id _ => hG id) ?_ ?_
    · exact okY rfl (LT_move rfl rfl) <| okY rfl (LT_assign rfl rfl) <| okE
    change AW _ _ _ _ _ _
    refine aw_weak (weak_of [(2, .ptr 1 0), (3, .ptr 2 0), (31, .d (.int .i64 ((Hn : Nat) : Int))), (32, .d (.int .i64 ((j : Nat) : Int))), (5, .d (.int .i64 ((j : Nat) : Int)))] [(1, some ⟨31, 7, [.d (.int .i64 ((Wn : Nat) : Int)), .d (.int .i64 ((Hn : Nat) : Int)), .d (.int .i64 ((Cn : Nat) : Int)), .d (.int .i64 B1), .d (.bool pl1), .d (.int .i64 P1), .d (.str O1)]⟩), (2, some ⟨31, 7, [.d (.int .i64 ((Wn : Nat) : Int)), .d (.int .i64 ((Hn : Nat) : Int)), .d (.int .i64 ((Cn : Nat) : Int)), .d (.int .i64 B2), .d (.bool pl2), .d (.int .i64 P2), .d (.str O2)]⟩)] [1, 2] (sE rfl (sE rfl (sE rfl (sE rfl (sE rfl sE0))))) (sH rfl (sH rfl sH0)) (by kernel_rfl)) ?_
    refine aw_seq ?_
    refine aw_region_seq [⟨.ptr 1 0, [], [], []⟩, ⟨.d (.int .i64 ((Wn : Nat) : Int)), [], [], [1]⟩, ⟨.d (.int .i64 0), [], [], []⟩] (by kernel_rfl) (by kernel_rfl) (fun id _ => hG id) ?_ ?_
    · exact okY rfl (LT_fieldAddr rfl rfl Try.underlying31 rfl inf3 (by decide) _ rfl) <| okY rfl (LT_load 1 rfl rfl rfl (List.Mem.head _) Try.underlying3 inf3 (by simp) (.inr ⟨rfl, rfl, rfl⟩)) <| okY rfl (LT_move rfl rfl) <| okE
    change AW _ _ _ _ _ _
    refine aw_weak (weak_of [(2, .ptr 1 0), (3, .ptr 2 0), (31, .d (.int .i64 ((Hn : Nat) : Int))), (32, .d (.int .i64 ((j : Nat) : Int))), (5, .d (.int .i64 ((j : Nat) : Int))), (36, .d (.int .i64 ((Wn : Nat) : Int))), (37, .d (.int .i64 0))] [(1, some ⟨31, 7, [.d (.int .i64 ((Wn : Nat) : Int)), .d (.int .i64 ((Hn : Nat) : Int)), .d (.int .i64 ((Cn : Nat) : Int)), .d (.int .i64 B1), .d (.bool pl1), .d (.int .i64 P1), .d (.str O1)]⟩), (2, some ⟨31, 7, [.d (.int .i64 ((Wn : Nat) : Int)), .d (.int .i64 ((Hn : Nat) : Int)), .d (.int .i64 ((Cn : Nat) : Int)), .d (.int .i64 B2), .d (.bool pl2), .d (.int .i64 P2), .d (.str O2)]⟩)] [1, 2] (sE rfl (sE rfl (sE rfl (sE rfl (sE rfl (sE rfl (sE rfl sE0))))))) (sH rfl (sH rfl sH0)) (by kernel_rfl)) ?_
    refine aw_block ?_
    refine aw_loopJ (fun i => ⟨[(2, .ptr 1 0), (3, .ptr 2 0), (31, .d (.int .i64 ((Hn : Nat) : Int))), (32, .d (.int .i64 ((j : Nat) : Int))), (5, .d (.int .i64 ((j : Nat) : Int))), (36, .d (.int .i64 ((Wn : Nat) : Int))), (37, .d (.int .i64 ((i : Nat) : Int)))], [(1, some ⟨31, 7, [.d (.int .i64 ((Wn : Nat) : Int)), .d (.int .i64 ((Hn : Nat) : Int)), .d (.int .i64 ((Cn : Nat) : Int)), .d (.int .i64 B1), .d (.bool pl1), .d (.int .i64 P1), .d (.str O1)]⟩), (2, some ⟨31, 7, [.d (.int .i64 ((Wn : Nat) : Int)), .d (.int .i64 ((Hn : Nat) : Int)), .d (.int .i64 ((Cn : Nat) : Int)), .d (.int .i64 B2), .d (.bool pl2), .d (.int .i64 P2), .d (.str O2)]⟩)], [1, 2]⟩) (fun i => i ≤ Wn) (fun i => Wn - i) 0 (Nat.zero_le _) ?_ ?_
    · exact weak_of _ _ _ (sE rfl (sE rfl (sE rfl (sE rfl (sE rfl (sE rfl (sE rfl sE0))))))) (sH rfl (sH rfl sH0)) (by kernel_rfl)
    intro i hJ1
    refine aw_seq ?_
    refine aw_region_seq [⟨.d (.bool (decide ((((i : Nat) : Int) : Int) < ((Wn : Nat) : Int)))), [], [], []⟩] (by kernel_rfl) (by kernel_rfl) (fun id _ => hG id) ?_ ?_
    · exact okY rfl (LT_cmp rfl rfl rfl rfl rfl) <| okE
    change AW _ _ _ _ _ _
    refine aw_weak (weak_of [(2, .ptr 1 0), (3, .ptr 2 0), (31, .d (.int .i64 ((Hn : Nat) : Int))), (32, .d (.int .i64 ((j : Nat) : Int))), (5, .d (.int .i64 ((j : Nat) : Int))), (36, .d (.int .i64 ((Wn : Nat) : Int))), (37, .d (.int .i64 ((i : Nat) : Int))), (38, .d (.bool (decide ((((i : Nat) : Int) : Int) < ((Wn : Nat) : Int)))))] [(1, some ⟨31, 7, [.d (.int .i64 ((Wn : Nat) : Int)), .d (.int .i64 ((Hn : Nat) : Int)), .d (.int .i64 ((Cn : Nat) : Int)), .d (.int .i64 B1), .d (.bool pl1), .d (.int .i64 P1), .d (.str O1)]⟩), (2, some ⟨31, 7, [.d (.int .i64 ((Wn : Nat) : Int)), .d (.int .i64 ((Hn : Nat) : Int)), .d (.int .i64 ((Cn : Nat) : Int)), .d (.int .i64 B2), .d (.bool pl2), .d (.int .i64 P2), .d (.str O2)]⟩)] [1, 2] (sE rfl (sE rfl (sE rfl (sE rfl (sE rfl (sE rfl (sE rfl (sE rfl sE0)))))))) (sH rfl (sH rfl sH0)) (by kernel_rfl)) ?_
    refine aw_seq ?_
    refine aw_cond (decide ((((i : Nat) : Int) : Int) < ((Wn : Nat) : Int))) rfl (fun hb2 => ?_) (fun hb2 => ?_)
    ·
      replace hb2 := of_decide_eq_true hb2
      refine aw_skip ?_
      change AW _ _ _ _ _ _
      refine aw_weak (weak_of [(2, .ptr 1 0), (3, .ptr 2 0), (31, .d (.int .i64 ((Hn : Nat) : Int))), (32, .d (.int .i64 ((j : Nat) : Int))), (5, .d (.int .i64 ((j : Nat) : Int))), (36, .d (.int .i64 ((Wn : Nat) : Int))), (37, .d (.int .i64 ((i : Nat) : Int)))] [(1, some ⟨31, 7, [.d (.int .i64 ((Wn : Nat) : Int)), .d (.int .i64 ((Hn : Nat) : Int)), .d (.int .i64 ((Cn : Nat) : Int)), .d (.int .i64 B1), .d (.bool pl1), .d (.int .i64 P1), .d (.str O1)]⟩), (2, some ⟨31, 7, [.d (.int .i64 ((Wn : Nat) : Int)), .d (.int .i64 ((Hn : Nat) : Int)), .d (.int .i64 ((Cn : Nat) : Int)), .d (.int .i64 B2), .d (.bool pl2), .d (.int .i64 P2), .d (.str O2)]⟩)] [1, 2] (sE rfl (sE rfl (sE rfl (sE rfl (sE rfl (sE rfl (sE rfl sE0))))))) (sH rfl (sH rfl sH0)) (by kernel_rfl)) ?_
      refine aw_seq ?_
      refine aw_block ?_
      refine aw_seq ?_
      refine aw_region_seq [⟨.d (.int .i64 ((i : Nat) : Int)), [], [], []⟩, ⟨.d (.int .i64 ((i : Nat) : Int)), [], [], []⟩] (by kernel_rfl) (by kernel_rfl) (fun id _ => hG id) ?_ ?_
      · exact okY rfl (LT_move rfl rfl) <| okY rfl (LT_assign rfl rfl) <| okE
      change AW _ _ _ _ _ _
      refine aw_weak (weak_of [(2, .ptr 1 0), (3, .ptr 2 0), (31, .d (.int .i64 ((Hn : Nat) : Int))), (32, .d (.int .i64 ((j : Nat) : Int))), (5, .d (.int .i64 ((j : Nat) : Int))), (36, .d (.int .i64 ((Wn : Nat) : Int))), (37, .d (.int .i64 ((i : Nat) : Int))), (6, .d (.int .i64 ((i : Nat) : Int)))] [(1, some ⟨31, 7, [.d (.int .i64 ((Wn : Nat) : Int)), .d (.int .i64 ((Hn : Nat) : Int)), .d (.int .i64 ((Cn : Nat) : Int)), .d (.int .i64 B1), .d (.bool pl1), .d (.int .i64 P1), .d (.str O1)]⟩), (2, some ⟨31, 7, [.d (.int .i64 ((Wn : Nat) : Int)), .d (.int .i64 ((Hn : Nat) : Int)), .d (.int .i64 ((Cn : Nat) : Int)), .d (.int .i64 B2), .d (.bool pl2), .d (.int .i64 P2), .d (.str O2)]⟩)] [1, 2] (sE rfl (sE rfl (sE rfl (sE rfl (sE rfl (sE rfl (sE rfl (sE rfl sE0)))))))) (sH rfl (sH rfl sH0)) (by kernel_rfl)) ?_
      refine aw_seq ?_
      refine aw_region_seq [⟨.agg [.d (.int .i64 ((Wn : Nat) : Int)), .d (.int .i64 ((Hn : Nat) : Int)), .d (.int .i64 ((Cn : Nat) : Int)), .d (.int .i64 B1), .d (.bool pl1), .d (.int .i64 P1), .d (.str O1)], [], [], [1]⟩, ⟨.d (.int .i64 ((i : Nat) : Int)), [], [], []⟩, ⟨.d (.int .i64 ((j : Nat) : Int)), [], [], []⟩, ⟨.tup [.d (.slw Cn 1 (intsD (l i j))), .d (.int .i64 0)], [], [], []⟩, ⟨.tup [.d (.slw Cn 1 (intsD (l i j))), .d (.int .i64 0)], [], [], []⟩, ⟨.d (.slw Cn 1 (intsD (l i j))), [], [], []⟩, ⟨.d (.int .i64 0), [], [], []⟩, ⟨.d (.slw Cn 1 (intsD (l i j))), [], [], []⟩, ⟨.d (.int .i64 0), [], [], []⟩] (by kernel_rfl) (by kernel_rfl) (fun id _ => hG id) ?_ ?_
      · exact okY rfl (LT_load 7 rfl rfl rfl (List.Mem.head _) Try.underlying31 inf31 (by simp) (.inl ⟨rfl, rfl, rfl⟩)) <| okY rfl (LT_move rfl rfl) <| okY rfl (LT_move rfl rfl) <| okY rfl (LT_call [.agg [.d (.int .i64 ((Wn : Nat) : Int)), .d (.int .i64 ((Hn : Nat) : Int)), .d (.int .i64 ((Cn : Nat) : Int)), .d (.int .i64 B1), .d (.bool pl1), .d (.int .i64 P1), .d (.str O1)], .d (.int .i64 ((i : Nat) : Int)), .d (.int .i64 ((j : Nat) : Int))] rfl rfl Try.call19 rfl ((pc_get' (hg1 i j (by omega) (by omega)) (hl i j)).ct rfl)) <| okY rfl (LT_move rfl rfl) <| okY rfl (LT_extract rfl rfl rfl) <| okY rfl (LT_extract rfl rfl rfl) <| okY rfl (LT_assign rfl rfl) <| okY rfl (LT_assign rfl rfl) <| okE
      change AW _ _ _ _ _ _
      refine aw_weak (weak_of [(2, .ptr 1 0), (3, .ptr 2 0), (31, .d (.int .i64 ((Hn : Nat) : Int))), (32, .d (.int .i64 ((j : Nat) : Int))), (5, .d (.int .i64 ((j : Nat) : Int))), (36, .d (.int .i64 ((Wn : Nat) : Int))), (37, .d (.int .i64 ((i : Nat) : Int))), (6, .d (.int .i64 ((i : Nat) : Int))), (7, .d (.slw Cn 1 (intsD (l i j)))), (8, .d (.int .i64 0))] [(1, some ⟨31, 7, [.d (.int .i64 ((Wn : Nat) : Int)), .d (.int .i64 ((Hn : Nat) : Int)), .d (.int .i64 ((Cn : Nat) : Int)), .d (.int .i64 B1), .d (.bool pl1), .d (.int .i64 P1), .d (.str O1)]⟩), (2, some ⟨31, 7, [.d (.int .i64 ((Wn : Nat) : Int)), .d (.int .i64 ((Hn : Nat) : Int)), .d (.int .i64 ((Cn : Nat) : Int)), .d (.int .i64 B2), .d (.bool pl2), .d (.int .i64 P2), .d (.str O2)]⟩)] [1, 2] (sE rfl (sE rfl (sE rfl (sE rfl (sE rfl (sE rfl (sE rfl (sE rfl (sE rfl (sE rfl sE0)))))))))) (sH rfl (sH rfl sH0)) (by kernel_rfl)) ?_
      refine aw_seq ?_
      refine aw_region_seq [⟨.agg [.d (.int .i64 ((Wn : Nat) : Int)), .d (.int .i64 ((Hn : Nat) : Int)), .d (.int .i64 ((Cn : Nat) : Int)), .d (.int .i64 B2), .d (.bool pl2), .d (.int .i64 P2), .d (.str O2)], [], [], [2]⟩, ⟨.d (.int .i64 ((i : Nat) : Int)), [], [], []⟩, ⟨.d (.int .i64 ((j : Nat) : Int)), [], [], []⟩, ⟨.tup [.d (.slw Cn 1 (intsD (l i j))), .d (.int .i64 0)], [], [], []⟩, ⟨.tup [.d (.slw Cn 1 (intsD (l i j))), .d (.int .i64 0)], [], [], []⟩, ⟨.d (.slw Cn 1 (intsD (l i j))), [], [], []⟩, ⟨.d (.int .i64 0), [], [], []⟩, ⟨.d (.slw Cn 1 (intsD (l i j))), [], [], []⟩, ⟨.d (.int .i64 0), [], [], []⟩] (by kernel_rfl) (by kernel_rfl) (fun id _ => hG id) ?_ ?_
      · exact okY rfl (LT_load 7 rfl rfl rfl (List.Mem.head _) Try.underlying31 inf31 (by simp) (.inl ⟨rfl, rfl, rfl⟩)) <| okY rfl (LT_move rfl rfl) <| okY rfl (LT_move rfl rfl) <| okY rfl (LT_call [.agg [.d (.int .i64 ((Wn : Nat) : Int)), .d (.int .i64 ((Hn : Nat) : Int)), .d (.int .i64 ((Cn : Nat) : Int)), .d (.int .i64 B2), .d (.bool pl2), .d (.int .i64 P2), .d (.str O2)], .d (.int .i64 ((i : Nat) : Int)), .d (.int .i64 ((j : Nat) : Int))] rfl rfl Try.call19 rfl ((pc_get' (hg2 i j (by omega) (by omega)) (hl i j)).ct rfl)) <| okY rfl (LT_move rfl rfl) <| okY rfl (LT_extract rfl rfl rfl) <| okY rfl (LT_extract rfl rfl rfl) <| okY rfl (LT_assign rfl rfl) <| okY rfl (LT_assign rfl rfl) <| okE
      change AW _ _ _ _ _ _
      refine aw_weak (weak_of [(2, .ptr 1 0), (3, .ptr 2 0), (31, .d (.int .i64 ((Hn : Nat) : Int))), (32, .d (.int .i64 ((j : Nat) : Int))), (5, .d (.int .i64 ((j : Nat) : Int))), (36, .d (.int .i64 ((Wn : Nat) : Int))), (37, .d (.int .i64 ((i : Nat) : Int))), (7, .d (.slw Cn 1 (intsD (l i j)))), (8, .d (.int .i64 0)), (9, .d (.slw Cn 1 (intsD (l i j)))), (10, .d (.int .i64 0))] [(1, some ⟨31, 7, [.d (.int .i64 ((Wn : Nat) : Int)), .d (.int .i64 ((Hn : Nat) : Int)), .d (.int .i64 ((Cn : Nat) : Int)), .d (.int .i64 B1), .d (.bool pl1), .d (.int .i64 P1), .d (.str O1)]⟩), (2, some ⟨31, 7, [.d (.int .i64 ((Wn : Nat) : Int)), .d (.int .i64 ((Hn : Nat) : Int)), .d (.int .i64 ((Cn : Nat) : Int)), .d (.int .i64 B2), .d (.bool pl2), .d (.int .i64 P2), .d (.str O2)]⟩)] [1, 2] (sE rfl (sE rfl (sE rfl (sE rfl (sE rfl (sE rfl (sE rfl (sE rfl (sE rfl (sE rfl (sE rfl sE0))))))))))) (sH rfl (sH rfl sH0)) (by kernel_rfl)) ?_
      refine aw_seq ?_
      refine aw_region_seq [⟨.d (.int .i64 0), [], [], []⟩, ⟨.d (.bool false), [], [], []⟩, ⟨.d (.bool false), [], [], []⟩, ⟨.d (.int .i64 0), [], [], []⟩, ⟨.d (.bool false), [], [], []⟩, ⟨.d (.bool false), [], [], []⟩, ⟨.d (.bool false), [], [], []⟩, ⟨.d (.slw Cn 1 (intsD (l i j))), [], [], []⟩, ⟨.d (.slw Cn 1 (intsD (l i j))), [], [], []⟩, ⟨.d (.bool true), [], [], []⟩, ⟨.d (.bool false), [], [], []⟩, ⟨.d (.bool false), [], [], []⟩] (by kernel_rfl) (by kernel_rfl) (fun id _ => hG id) ?_ ?_
      · exact okY rfl (LT_move rfl rfl) <| okY rfl (LT_cmp rfl rfl rfl rfl rfl) <| okY rfl (LT_move rfl rfl) <| okY rfl (LT_move rfl rfl) <| okY rfl (LT_cmp rfl rfl rfl rfl rfl) <| okY rfl (LT_pick rfl rfl (fun h => by cases h) (fun _ _ _ _ _ h => h)) <| okY rfl (LT_move rfl rfl) <| okY rfl (LT_move rfl rfl) <| okY rfl (LT_move rfl rfl) <| okY rfl (LT_call [.d (.slw Cn 1 (intsD (l i j))), .d (.slw Cn 1 (intsD (l i j)))] rfl rfl Try.call21 rfl ((pc_equal' (hl _ _) (hl _ _) (by omega) (by omega) (by simp)).ct rfl)) <| okY rfl (LT_not rfl rfl rfl) <| okY rfl (LT_pick rfl rfl (fun h => by cases h) (fun _ _ _ _ _ h => h)) <| okE
      change AW _ _ _ _ _ _
      refine aw_weak (weak_of [(2, .ptr 1 0), (3, .ptr 2 0), (31, .d (.int .i64 ((Hn : Nat) : Int))), (32, .d (.int .i64 ((j : Nat) : Int))), (5, .d (.int .i64 ((j : Nat) : Int))), (36, .d (.int .i64 ((Wn : Nat) : Int))), (37, .d (.int .i64 ((i : Nat) : Int))), (65, .d (.bool false))] [(1, some ⟨31, 7, [.d (.int .i64 ((Wn : Nat) : Int)), .d (.int .i64 ((Hn : Nat) : Int)), .d (.int .i64 ((Cn : Nat) : Int)), .d (.int .i64 B1), .d (.bool pl1), .d (.int .i64 P1), .d (.str O1)]⟩), (2, some ⟨31, 7, [.d (.int .i64 ((Wn : Nat) : Int)), .d (.int .i64 ((Hn : Nat) : Int)), .d (.int .i64 ((Cn : Nat) : Int)), .d (.int .i64 B2), .d (.bool pl2), .d (.int .i64 P2), .d (.str O2)]⟩)] [1, 2] (sE rfl (sE rfl (sE rfl (sE rfl (sE rfl (sE rfl (sE rfl (sE rfl sE0)))))))) (sH rfl (sH rfl sH0)) (by kernel_rfl)) ?_
      refine aw_condF rfl ?_
      refine aw_skip ?_
      change AW _ _ _ _ _ _
      refine aw_weak (weak_of [(2, .ptr 1 0), (3, .ptr 2 0), (31, .d (.int .i64 ((Hn : Nat) : Int))), (32, .d (.int .i64 ((j : Nat) : Int))), (5, .d (.int .i64 ((j : Nat) : Int))), (36, .d (.int .i64 ((Wn : Nat) : Int))), (37, .d (.int .i64 ((i : Nat) : Int)))] [(1, some ⟨31, 7, [.d (.int .i64 ((Wn : Nat) : Int)), .d (.int .i64 ((Hn : Nat) : Int)), .d (.int .i64 ((Cn : Nat) : Int)), .d (.int .i64 B1), .d (.bool pl1), .d (.int .i64 P1), .d (.str O1)]⟩), (2, some ⟨31, 7, [.d (.int .i64 ((Wn : Nat) : Int)), .d (.int .i64 ((Hn : Nat) : Int)), .d (.int .i64 ((Cn : Nat) : Int)), .d (.int .i64 B2), .d (.bool pl2), .d (.int .i64 P2), .d (.str O2)]⟩)] [1, 2] (sE rfl (sE rfl (sE rfl (sE rfl (sE rfl (sE rfl (sE rfl sE0))))))) (sH rfl (sH rfl sH0)) (by kernel_rfl)) ?_
      refine aw_region_seq [⟨.d (.int .i64 (((i : Nat) : Int) + 1)), [], [], []⟩, ⟨.d (.int .i64 (((i : Nat) : Int) + 1)), [], [], []⟩] (by kernel_rfl) (by kernel_rfl) (fun id _ => hG id) ?_ ?_
      · exact okY rfl (LT_add rfl rfl rfl (wi64 (by omega) (by omega))) <| okY rfl (LT_move rfl rfl) <| okE
      exact ⟨(i + 1), by omega, by omega, weak_of _ _ _ (sE rfl (sE rfl (sE rfl (sE rfl (sE rfl (sE rfl (sE rfl sE0))))))) (sH rfl (sH rfl sH0)) (by kernel_rfl)⟩
    ·
      replace hb2 := of_decide_eq_false hb2
      refine aw_exit ?_
      change AW _ _ _ _ _ _
      refine aw_weak (weak_of [(2, .ptr 1 0), (3, .ptr 2 0), (31, .d (.int .i64 ((Hn : Nat) : Int))), (32, .d (.int .i64 ((j : Nat) : Int)))] [(1, some ⟨31, 7, [.d (.int .i64 ((Wn : Nat) : Int)), .d (.int .i64 ((Hn : Nat) : Int)), .d (.int .i64 ((Cn : Nat) : Int)), .d (.int .i64 B1), .d (.bool pl1), .d (.int .i64 P1), .d (.str O1)]⟩), (2, some ⟨31, 7, [.d (.int .i64 ((Wn : Nat) : Int)), .d (.int .i64 ((Hn : Nat) : Int)), .d (.int .i64 ((Cn : Nat) : Int)), .d (.int .i64 B2), .d (.bool pl2), .d (.int .i64 P2), .d (.str O2)]⟩)] [1, 2] (sE rfl (sE rfl (sE rfl (sE rfl sE0)))) (sH rfl (sH rfl sH0)) (by kernel_rfl)) ?_
      refine aw_region_seq [⟨.d (.int .i64 (((j : Nat) : Int) + 1)), [], [], []⟩, ⟨.d (.int .i64 (((j : Nat) : Int) + 1)), [], [], []⟩] (by kernel_rfl) (by kernel_rfl) (fun id _ => hG id) ?_ ?_
      · exact okY rfl (LT_add rfl rfl rfl (wi64 (by omega) (by omega))) <| okY rfl (LT_move rfl rfl) <| okE
      exact ⟨(j + 1), by omega, by omega, weak_of _ _ _ (sE rfl (sE rfl (sE rfl (sE rfl sE0)))) (sH rfl (sH rfl sH0)) (by kernel_rfl)⟩
  ·
    replace hb1 := of_decide_eq_false hb1
    refine aw_exit ?_
    change AW _ _ _ _ _ _
    refine aw_weak (weak_of [] [] [] sE0 sH0 (by kernel_rfl)) ?_
    refine aw_seq ?_
    refine aw_region_seq [⟨.d (.bool true), [], [], []⟩] (by kernel_rfl) (by kernel_rfl) (fun id _ => hG id) ?_ ?_
    · exact okY rfl (LT_assign rfl rfl) <| okE
    change AW _ _ _ _ _ _
    refine aw_weak (weak_of [(4, .d (.bool true))] [] [] (sE rfl sE0) sH0 (by kernel_rfl)) ?_
    refine aw_ret ?_
    refine fin1 (x := .d (.bool true)) (.inl rfl) Try.results26 rfl ?_
    exact rfl

end Go.Proofs.Ytphfbjeaklpddaa

/- Layer 42, the plain law: what the functions answer for images by functions. -/
namespace Go.Proofs.Ytphfbjeaklpddaa
open Go.RowKit

theorem thereB_yes (L : Lay) (x y : Int) (x0 : 0 ≤ x) (x1 : x < L.W) (y0 : 0 ≤ y) (y1 : y < L.H) : thereB L x y = true := (thereB_iff L x y).2 ⟨⟨x0, x1⟩, ⟨y0, y1⟩⟩

theorem getR_ok (I : Im) (hv : I.vB = true) (x y : Int) (x0 : 0 ≤ x) (x1 : x < I.L.W) (y0 : 0 ≤ y) (y1 : y < I.L.H) : getR I x y = ((List.range I.L.C.toNat).map fun c => I.L.fn I.O x y (c : Nat), 0) := by
  unfold getR
  rw [if_pos hv, if_pos (thereB_yes I.L x y x0 x1 y0 y1)]

theorem getR_imF (L : Lay) (hok : L.ok) (f : Int → Int → Int → Int) (hf : Fits L f) (x y : Int) (x0 : 0 ≤ x) (x1 : x < L.W) (y0 : 0 ≤ y) (y1 : y < L.H) : getR (imF L f) x y = ((List.range L.C.toNat).map fun c => f x y (c : Nat), 0) := by
  rw [getR_ok (imF L f) (imF_valid L hok f) x y x0 x1 y0 y1]
  congr 1
  refine List.map_congr_left fun c hc => ?_
  have h : c < L.C.toNat := List.mem_range.1 hc
  exact imF_fn L hok f hf ⟨⟨x0, x1⟩, ⟨y0, y1⟩, ⟨by omega, by show ((c : Nat) : Int) < L.C; omega⟩⟩

theorem setR_ok (I : Im) (hv : I.vB = true) (x y : Int) (xs : List Int) (x0 : 0 ≤ x) (x1 : x < I.L.W) (y0 : 0 ≤ y) (y1 : y < I.L.H) (hl : (xs.length : Int) = I.L.C) (hr : ∀ v ∈ xs, 0 ≤ v ∧ v < if I.L.B = 8 then 256 else 65536) :
    setR I x y xs = (imF I.L (putF (I.L.fn I.O) x y xs xs.length), 0) := by
  have h : rngB I.L xs = true := by
    unfold rngB
    rw [List.all_eq_true]
    intro v hm
    rw [inB_iff]
    obtain ⟨a, b⟩ := hr v hm
    refine ⟨a, ?_⟩
    split at b
    · rename_i h8; rw [if_pos h8]; omega
    · rename_i h8; rw [if_neg h8]; omega
  unfold setR
  rw [if_pos hv, thereB_yes I.L x y x0 x1 y0 y1, h, hl]
  simp only [decide_true, Bool.and_self, if_true]
  rfl

theorem chkR_ok {I : Im} (hv : I.vB = true) : chkR I = 0 := by unfold chkR; rw [if_pos hv]

end Go.Proofs.Ytphfbjeaklpddaa

/- Layer 42, the plain law: what becomes of samples when the layout turns. -/
namespace Go.Proofs.Ytphfbjeaklpddaa
open Go.RowKit

def Im.fn (I : Im) : Int → Int → Int → Int := I.L.fn I.O

theorem b816 {I : Im} (hv : I.vB = true) : I.L.B = 8 ∨ I.L.B = 16 := (Im.ok hv).b

theorem chgT_same (B v : Int) : chgT B B v = v := by unfold chgT; rw [if_neg (by omega), if_neg (by omega)]

theorem fn_bd (I : Im) (hv : I.vB = true) (x y c : Int) : 0 ≤ I.fn x y c ∧ I.fn x y c < if I.L.B = 8 then 256 else 65536 := I.L.smp_bd (Im.ok hv) (octAt I.O) (octAt_range I.O) x y c

theorem chgT_bd {B b v : Int} (hB : B = 8 ∨ B = 16) (hb : b = 8 ∨ b = 16) (h0 : 0 ≤ v) (h1 : v < if B = 8 then 256 else 65536) : 0 ≤ chgT B b v ∧ chgT B b v < if b = 8 then 256 else 65536 := by
  unfold chgT
  rcases hB with rfl | rfl <;> rcases hb with rfl | rfl <;> simp at h1 ⊢ <;> omega

theorem shp_keep (I : Im) (hv : I.vB = true) (bits : Int) (pl : Bool) (pad : Int) (hb : bits = 8 ∨ bits = 16) (hp : pad = 1 ∨ pad = 2 ∨ pad = 4 ∨ pad = 8) :
    ∃ S, shpR I bits pl pad = (S, 0) ∧ S.vB = true ∧ S.L = I.L.lay bits pl pad ∧ ∀ x y c, I.L.dom x y c → S.fn x y c = chgT I.L.B bits (I.fn x y c) := by
  have hok := Im.ok hv
  have hok' : (I.L.lay bits pl pad).ok := ⟨hok.w1, hok.w2, hok.h1, hok.h2, hok.c1, hok.c2, hb, hp, hok.s⟩
  have hs : shpB I.L.W I.L.H I.L.C bits pad = true := (shpB_iff _ _ _ _ _).2 hok'
  unfold shpR
  rw [if_pos hv]
  split
  · rename_i h
    simp only [Bool.and_eq_true, decide_eq_true_eq, beq_iff_eq] at h
    obtain ⟨rfl, rfl, rfl⟩ := h
    exact ⟨I, rfl, hv, rfl, fun x y c _ => (chgT_same _ _).symm⟩
  · try rw [if_pos hs]
    have e : I.lay bits pl pad = imF (I.L.lay bits pl pad) fun a b c => chgT I.L.B bits (I.L.fn I.O a b c) := rfl
    rw [e]
    refine ⟨_, rfl, imF_valid _ hok' _, rfl, fun x y c hd => ?_⟩
    exact imF_fn _ hok' _ (fun a b c _ => chgT_bd (b816 hv) hb (fn_bd I hv a b c).1 (fn_bd I hv a b c).2) hd

theorem chg_back {B b v : Int} (hB : B = 8 ∨ B = 16) (hb : b = B ∨ b = 16) (h0 : 0 ≤ v) (h1 : v < if B = 8 then 256 else 65536) : chgT b B (chgT B b v) = v := by
  rcases hb with rfl | rfl
  · rw [chgT_same, chgT_same]
  · rcases hB with rfl | rfl
    · unfold chgT
      simp
      simp at h1
      omega
    · rw [chgT_same, chgT_same]

/-- there and back again -/
theorem shp_back (I S : Im) (hv : I.vB = true) (bits : Int) (pl : Bool) (pad : Int) (hb : bits = I.L.B ∨ bits = 16) (hS : S.vB = true) (hL : S.L = I.L.lay bits pl pad) (hf : ∀ x y c, I.L.dom x y c → S.fn x y c = chgT I.L.B bits (I.fn x y c)) :
    shpR S I.L.B I.L.pl I.L.P = (I, 0) := by
  obtain ⟨R, h1, h2, h3, h4⟩ := shp_keep S hS I.L.B I.L.pl I.L.P (b816 hv) (Im.ok hv).p
  rw [h1]
  congr 1
  have hRL : R.L = I.L := by rw [h3, hL]; rfl
  refine Im.ext_fn R I hRL h2 hv fun x y c hd => ?_
  have hd' : I.L.dom x y c := by rw [← hRL]; exact hd
  have e := h4 x y c (by rw [hL]; exact hd')
  show R.fn x y c = I.fn x y c
  rw [e, hf x y c hd', hL]
  exact chg_back (b816 hv) hb (fn_bd I hv x y c).1 (fn_bd I hv x y c).2

def row0 (I : Im) (n : Nat) (i j : Nat) : List Int := (List.range n).map fun c => I.fn i j (c : Nat)
theorem row0_len (I : Im) (n i j : Nat) : (row0 I n i j).length = n := by simp [row0]

theorem get_row (I : Im) (hv : I.vB = true) (n : Nat) (hn : I.L.C = n) (i j : Nat) (hi : (i : Int) < I.L.W) (hj : (j : Int) < I.L.H) : getR I i j = (row0 I n i j, 0) := by
  rw [getR_ok I hv i j (by omega) hi (by omega) hj, hn]
  rfl

theorem row0_at (I : Im) (n i j k : Nat) (hk : k < n) : (row0 I n i j)[k]? = some (I.fn i j (k : Nat)) := by
  simp [row0, hk]

theorem far_bd {B v : Int} (hB : B = 8 ∨ B = 16) (h0 : 0 ≤ v) (h1 : v < if B = 8 then 256 else 65536) : -128 ≤ chgT B 16 v - chgT 8 16 (chgT B 8 v) ∧ chgT B 16 v - chgT 8 16 (chgT B 8 v) ≤ 128 := by
  rcases hB with rfl | rfl
  · simp only [chgT_same]
    unfold chgT
    simp
  · rw [chgT_same]
    unfold chgT
    simp
    simp at h1
    omega

/-- what ImageTurns meets, for an image m of these numbers -/
structure Turns (m S DP FL WI : Im) (pl : Bool) (p : Int) (n : Nat) (W H : Nat) : Prop where
  s : shpR m m.L.B pl p = (S, 0)
  sb : shpR S m.L.B m.L.pl m.L.P = (m, 0)
  sc : chkR S = 0
  d : shpR m 16 pl p = (DP, 0)
  db : shpR DP m.L.B m.L.pl m.L.P = (m, 0)
  f : shpR m 8 pl p = (FL, 0)
  fw : shpR FL 16 pl p = (WI, 0)
  sL : S.L = m.L.lay m.L.B pl p
  dL : DP.L = m.L.lay 16 pl p
  fL : FL.L = m.L.lay 8 pl p
  wL : WI.L = m.L.lay 16 pl p
  gm : ∀ i j : Nat, i < W → j < H → getR m i j = (row0 m n i j, 0)
  gs : ∀ i j : Nat, i < W → j < H → getR S i j = (row0 m n i j, 0)
  gd : ∀ i j : Nat, i < W → j < H → getR DP i j = (row0 DP n i j, 0)
  gw : ∀ i j : Nat, i < W → j < H → getR WI i j = (row0 WI n i j, 0)
  far : ∀ i j k : Nat, i < W → j < H → k < n → -128 ≤ DP.fn i j k - WI.fn i j k ∧ DP.fn i j k - WI.fn i j k ≤ 128
  bd : ∀ i j k : Nat, (0 ≤ DP.fn i j k ∧ DP.fn i j k < 65536) ∧ (0 ≤ WI.fn i j k ∧ WI.fn i j k < 65536)

theorem turns_plain (m : Im) (hv : m.vB = true) (pl : Bool) (p : Int) (hp : p = 1 ∨ p = 2 ∨ p = 4 ∨ p = 8) (W H n : Nat) (hW : m.L.W = W) (hH : m.L.H = H) (hn : m.L.C = n) : ∃ S DP FL WI, Turns m S DP FL WI pl p n W H := by
  obtain ⟨S, s1, s2, s3, s4⟩ := shp_keep m hv m.L.B pl p (b816 hv) hp
  obtain ⟨DP, d1, d2, d3, d4⟩ := shp_keep m hv 16 pl p (.inr rfl) hp
  obtain ⟨FL, f1, f2, f3, f4⟩ := shp_keep m hv 8 pl p (.inl rfl) hp
  obtain ⟨WI, w1, w2, w3, w4⟩ := shp_keep FL f2 16 pl p (.inr rfl) hp
  have hdom : ∀ i j k : Nat, i < W → j < H → k < n → m.L.dom i j k := fun i j k hi hj hk => ⟨⟨by omega, by omega⟩, ⟨by omega, by omega⟩, ⟨by omega, by omega⟩⟩
  have wL : WI.L = m.L.lay 16 pl p := by rw [w3, f3]; rfl
  refine ⟨S, DP, FL, WI, s1, shp_back m S hv m.L.B pl p (.inl rfl) s2 s3 s4, chkR_ok s2, d1, shp_back m DP hv 16 pl p (.inr rfl) d2 d3 d4, f1, w1, s3, d3, f3, wL, ?_, ?_, ?_, ?_, ?_, ?_⟩
  · exact fun i j hi hj => get_row m hv n hn i j (by omega) (by omega)
  · intro i j hi hj
    rw [get_row S s2 n (by rw [s3]; exact hn) i j (by rw [s3]; show (i : Int) < m.L.W; omega) (by rw [s3]; show (j : Int) < m.L.H; omega)]
    congr 1
    refine List.map_congr_left fun c hc => ?_
    rw [s4 _ _ _ (hdom i j c hi hj (List.mem_range.1 hc)), chgT_same]
  · exact fun i j hi hj => get_row DP d2 n (by rw [d3]; exact hn) i j (by rw [d3]; show (i : Int) < m.L.W; omega) (by rw [d3]; show (j : Int) < m.L.H; omega)
  · exact fun i j hi hj => get_row WI w2 n (by rw [wL]; exact hn) i j (by rw [wL]; show (i : Int) < m.L.W; omega) (by rw [wL]; show (j : Int) < m.L.H; omega)
  · intro i j k hi hj hk
    have hd := hdom i j k hi hj hk
    have e1 := d4 _ _ _ hd
    have e2 := f4 _ _ _ hd
    have e3 := w4 _ _ _ (show FL.L.dom i j k by rw [f3]; exact hd)
    rw [e1, e3, e2, f3]
    exact far_bd (b816 hv) (fn_bd m hv _ _ _).1 (fn_bd m hv _ _ _).2
  · intro i j k
    have h1 := fn_bd DP d2 i j k
    have h2 := fn_bd WI w2 i j k
    rw [d3] at h1
    rw [wL] at h2
    exact ⟨⟨h1.1, by have := h1.2; simpa [Lay.lay] using this⟩, ⟨h2.1, by have := h2.2; simpa [Lay.lay] using this⟩⟩

end Go.Proofs.Ytphfbjeaklpddaa

/- Layer 42, the plain law: parts cut out and pasted. -/
namespace Go.Proofs.Ytphfbjeaklpddaa
open Go.RowKit

theorem cut_keep (I : Im) (hv : I.vB = true) (x y wide high : Int) (a1 : 1 ≤ wide) (a2 : 1 ≤ high) (x0 : 0 ≤ x) (x1 : x + wide ≤ I.L.W) (y0 : 0 ≤ y) (y1 : y + high ≤ I.L.H) :
    ∃ S, cutR I x y wide high = (S, 0) ∧ S.vB = true ∧ S.L = I.L.part wide high ∧ ∀ a b c, (I.L.part wide high).dom a b c → S.fn a b c = I.fn (x + a) (y + b) c := by
  have hok' := I.L.part_ok (Im.ok hv) wide high a1 (by omega) a2 (by omega)
  have h1 : inB wide 1 I.L.W = true := (inB_iff _ _ _).2 ⟨a1, by omega⟩
  have h2 : inB high 1 I.L.H = true := (inB_iff _ _ _).2 ⟨a2, by omega⟩
  have h3 : insB I.L x y wide high = true := by
    unfold insB
    rw [(inB_iff _ _ _).2 ⟨x0, by omega⟩, (inB_iff _ _ _).2 ⟨y0, by omega⟩]; rfl
  unfold cutR
  rw [if_pos hv, h1, h2, h3]
  simp only [Bool.and_self, if_true]
  refine ⟨imF (I.L.part wide high) (cpyF (I.L.fn I.O) (fun _ _ _ => 0) x y 0 0 high wide 0), rfl, imF_valid _ hok' _, rfl, fun a b c hd => ?_⟩
  have hf : Fits (I.L.part wide high) (cpyF (I.L.fn I.O) (fun _ _ _ => 0) x y 0 0 high wide 0) := fun a b c _ => by
    unfold cpyF
    split
    · exact fn_bd I hv _ _ _
    · show 0 ≤ (0 : Int) ∧ (0 : Int) < if I.L.B = 8 then 256 else 65536
      split <;> omega
  have e := imF_fn _ hok' _ hf hd
  refine e.trans ?_
  obtain ⟨⟨d1, d2⟩, ⟨d3, d4⟩, _⟩ := hd
  have d2' : a < wide := d2
  have d4' : b < high := d4
  unfold cpyF
  rw [if_pos (.inl ⟨by omega, by omega, by omega, by omega⟩), show a - 0 = a by omega, show b - 0 = b by omega]
  rfl

theorem paste_keep (I J : Im) (hI : I.vB = true) (hJ : J.vB = true) (hC : I.L.C = J.L.C) (hB : I.L.B = J.L.B) (x y : Int) (x0 : 0 ≤ x) (x1 : x + J.L.W ≤ I.L.W) (y0 : 0 ≤ y) (y1 : y + J.L.H ≤ I.L.H) :
    ∃ S, pasR I J x y = (S, 0) ∧ S.vB = true ∧ S.L = I.L ∧ ∀ a b c, I.L.dom a b c → S.fn a b c = if x ≤ a ∧ a < x + J.L.W ∧ y ≤ b ∧ b < y + J.L.H then J.fn (a - x) (b - y) c else I.fn a b c := by
  have h3 : insB I.L x y J.L.W J.L.H = true := by
    unfold insB
    rw [(inB_iff _ _ _).2 ⟨x0, by omega⟩, (inB_iff _ _ _).2 ⟨y0, by omega⟩]; rfl
  unfold pasR
  rw [hI, hJ, h3, decide_eq_true hC, decide_eq_true hB]
  simp only [Bool.and_self, if_true]
  refine ⟨imF I.L (cpyF (J.L.fn J.O) (I.L.fn I.O) 0 0 x y J.L.H J.L.W 0), rfl, imF_valid _ (Im.ok hI) _, rfl, fun a b c hd => ?_⟩
  have hf : Fits I.L (cpyF (J.L.fn J.O) (I.L.fn I.O) 0 0 x y J.L.H J.L.W 0) := fun a b c _ => by
    unfold cpyF
    split
    · have := fn_bd J hJ (0 + (a - x)) (0 + (b - y)) c
      rw [← hB] at this
      exact this
    · exact fn_bd I hI _ _ _
  refine (imF_fn _ (Im.ok hI) _ hf hd).trans ?_
  unfold cpyF
  by_cases h : x ≤ a ∧ a < x + J.L.W ∧ y ≤ b ∧ b < y + J.L.H
  · rw [if_pos (.inl h), if_pos h, Int.zero_add, Int.zero_add]
    rfl
  · rw [if_neg (by rintro (h' | h'); exact h h'; omega), if_neg h]
    rfl

/-- what ImageParts meets -/
structure Parts (m PT O PI WI OU : Im) (x y wide high : Int) (n pw ph : Nat) : Prop where
  c : cutR m x y wide high = (PT, 0)
  s : pasR m PT x y = (m, 0)
  ptL : PT.L = m.L.part wide high
  p : cutR O 0 0 pw ph = (PI, 0)
  piL : PI.L = O.L.part pw ph
  w : pasR m PI x y = (WI, 0)
  wL : WI.L = m.L
  o : cutR WI x y pw ph = (OU, 0)
  ouL : OU.L = m.L.part pw ph
  ck : chkR WI = 0
  g1 : ∀ i j : Nat, i < pw → j < ph → getR OU i j = (row0 PI n i j, 0)
  g2 : ∀ i j : Nat, i < pw → j < ph → getR PI i j = (row0 PI n i j, 0)

theorem parts_plain (m O : Im) (hm : m.vB = true) (hO : O.vB = true) (hC : m.L.C = O.L.C) (hB : m.L.B = O.L.B) (x y wide high : Int) (n pw ph : Nat) (hn : m.L.C = n) (x0 : 0 ≤ x) (x1 : x + wide ≤ m.L.W) (y0 : 0 ≤ y) (y1 : y + high ≤ m.L.H) (a1 : 1 ≤ wide) (a2 : 1 ≤ high)
    (p1 : 1 ≤ pw) (p2 : 1 ≤ ph) (q1 : (pw : Int) ≤ O.L.W) (q2 : (ph : Int) ≤ O.L.H) (q3 : (pw : Int) ≤ wide) (q4 : (ph : Int) ≤ high) : ∃ PT PI WI OU, Parts m PT O PI WI OU x y wide high n pw ph := by
  obtain ⟨PT, c1, c2, c3, c4⟩ := cut_keep m hm x y wide high a1 a2 x0 x1 y0 y1
  obtain ⟨S, s1, s2, s3, s4⟩ := paste_keep m PT hm c2 (by rw [c3]; rfl) (by rw [c3]; rfl) x y x0 (by rw [c3]; exact x1) y0 (by rw [c3]; exact y1)
  have hS : S = m := Im.ext_fn S m s3 s2 hm fun a b c hd => by
    rw [s3] at hd
    show S.fn a b c = m.fn a b c
    rw [s4 a b c hd]
    split
    · rename_i h
      rw [c3] at h
      have h2 : a < x + wide := h.2.1
      have h4 : b < y + high := h.2.2.2
      rw [c4 (a - x) (b - y) c ⟨⟨by omega, show a - x < wide by omega⟩, ⟨by omega, show b - y < high by omega⟩, hd.2.2⟩, show x + (a - x) = a by omega, show y + (b - y) = b by omega]
    · rfl
  obtain ⟨PI, e1, e2, e3, e4⟩ := cut_keep O hO 0 0 pw ph (by omega) (by omega) (by omega) (by omega) (by omega) (by omega)
  obtain ⟨WI, w1, w2, w3, w4⟩ := paste_keep m PI hm e2 (by rw [e3]; exact hC) (by rw [e3]; exact hB) x y x0 (by rw [e3]; show x + (pw : Int) ≤ _; omega) y0 (by rw [e3]; show y + (ph : Int) ≤ _; omega)
  obtain ⟨OU, o1, o2, o3, o4⟩ := cut_keep WI w2 x y pw ph (by omega) (by omega) x0 (by rw [w3]; omega) y0 (by rw [w3]; omega)
  refine ⟨PT, PI, WI, OU, c1, hS ▸ s1, c3, e1, e3, w1, w3, o1, by rw [o3, w3], chkR_ok w2, fun i j hi hj => ?_, fun i j hi hj => ?_⟩
  · rw [get_row OU o2 n (by rw [o3, w3]; exact hn) i j (by rw [o3]; show (i : Int) < (pw : Int); omega) (by rw [o3]; show (j : Int) < (ph : Int); omega)]
    congr 1
    refine List.map_congr_left fun c hc => ?_
    have hcn := List.mem_range.1 hc
    have c0 : (0 : Int) ≤ (c : Nat) ∧ ((c : Nat) : Int) < m.L.C := ⟨by omega, by omega⟩
    rw [o4 _ _ _ ⟨⟨by omega, show (i : Int) < (pw : Int) by omega⟩, ⟨by omega, show (j : Int) < (ph : Int) by omega⟩, (by rw [w3]; exact c0)⟩]
    rw [w4 _ _ _ ⟨⟨by omega, by omega⟩, ⟨by omega, by omega⟩, c0⟩, if_pos, show x + (i : Int) - x = i by omega, show y + (j : Int) - y = j by omega]
    rw [e3]
    exact ⟨by omega, show x + (i : Int) < x + (pw : Int) by omega, by omega, show y + (j : Int) < y + (ph : Int) by omega⟩
  · exact get_row PI e2 n (by rw [e3]; show O.L.C = n; omega) i j (by rw [e3]; show (i : Int) < (pw : Int); omega) (by rw [e3]; show (j : Int) < (ph : Int); omega)

end Go.Proofs.Ytphfbjeaklpddaa

/- Layer 42: ImageParts. -/
namespace Go.Proofs.Ytphfbjeaklpddaa
open Go.RowKit

set_option maxRecDepth 100000 in
set_option maxHeartbeats 2000000 in
theorem parts_core (D D2 : Dr) (hD : D.ok) (a0 a1 a2 a3 x y q q' wide high : Int) (h0 : 0 ≤ a0 ∧ a0 < 256) (h1 : 0 ≤ a1 ∧ a1 < 256) (h2 : 0 ≤ a2 ∧ a2 < 256) (h3 : 0 ≤ a3 ∧ a3 < 256) (W H n pw ph : Nat) (B P0 Po ow oh : Int) (pl0 plo : Bool) (O OPT OO OP OW OU : ByteArray)
    (hm : D.im = ⟨⟨((W : Nat) : Int), ((H : Nat) : Int), ((n : Nat) : Int), B, pl0, P0⟩, O⟩) (hW : 1 ≤ W ∧ W ≤ 64) (hH : 1 ≤ H ∧ H ≤ 64) (hn : 1 ≤ n ∧ n ≤ 4) (hx : a0 % (W : Int) = x) (hy : a1 % (H : Int) = y) (x0 : 0 ≤ x) (x1 : x < W) (y0 : 0 ≤ y) (y1 : y < H) (hq : a2 % ((W : Int) - x) = q) (hq' : a3 % ((H : Int) - y) = q') (hwide : wide = 1 + q) (hhigh : high = 1 + q') (q0 : 0 ≤ q ∧ q < 256) (q0' : 0 ≤ q' ∧ q' < 256)
    (hD2 : (⟨D2.w, D2.h, D2.c, D2.p, (B == 16), D2.pl, D2.vs⟩ : Dr).ok) (hso : (⟨D2.w, D2.h, D2.c, D2.p, (B == 16), D2.pl, D2.vs⟩ : Dr).some n = ⟨⟨ow, oh, ((n : Nat) : Int), B, plo, Po⟩, OO⟩) (hpw : min ow wide = (pw : Int)) (hph : min oh high = (ph : Int)) (hpw6 : pw ≤ 64) (hph6 : ph ≤ 64) (hT : Parts ⟨⟨((W : Nat) : Int), ((H : Nat) : Int), ((n : Nat) : Int), B, pl0, P0⟩, O⟩ ⟨⟨wide, high, ((n : Nat) : Int), B, pl0, P0⟩, OPT⟩ ⟨⟨ow, oh, ((n : Nat) : Int), B, plo, Po⟩, OO⟩ ⟨⟨((pw : Nat) : Int), ((ph : Nat) : Int), ((n : Nat) : Int), B, plo, Po⟩, OP⟩ ⟨⟨((W : Nat) : Int), ((H : Nat) : Int), ((n : Nat) : Int), B, pl0, P0⟩, OW⟩ ⟨⟨((pw : Nat) : Int), ((ph : Nat) : Int), ((n : Nat) : Int), B, pl0, P0⟩, OU⟩ x y wide high n pw ph) : PC Try.prog 8 [.agg [.d (.int .u8 D.w), .d (.int .u8 D.h), .d (.int .u8 D.c), .d (.int .u8 D.p), .d (.bool D.deep), .d (.bool D.pl), .d (.slw D.vs.length 1 (u16D D.vs))], .agg [.d (.int .u8 D2.w), .d (.int .u8 D2.h), .d (.int .u8 D2.c), .d (.int .u8 D2.p), .d (.bool D2.deep), .d (.bool D2.pl), .d (.slw D2.vs.length 1 (u16D D2.vs))], .agg [.d (.int .u8 a0), .d (.int .u8 a1), .d (.int .u8 a2), .d (.int .u8 a3)]] (.d (.bool true)) := by
  refine PC_of (fn := Try.f8) Try.func8 rfl (by simp [Try.ntmps8]) (by kernel_rfl) fun G hG => ?_
  rw [Try.ntmps8]
  have HX := Lib.hid hx
  obtain ⟨hc, hs, -, hp, -, hw, -, ho, -, hck, hg1, hg2⟩ := hT
  refine aw_seq ?_
  refine aw_region_seq [⟨.ptr 1 0, [(1, some ⟨24, 7, [.d (.int .u8 D.w), .d (.int .u8 D.h), .d (.int .u8 D.c), .d (.int .u8 D.p), .d (.bool D.deep), .d (.bool D.pl), .d (.slw D.vs.length 1 (u16D D.vs))]⟩)], [1], []⟩, ⟨.ptr 2 0, [(2, some ⟨24, 7, [.d (.int .u8 D2.w), .d (.int .u8 D2.h), .d (.int .u8 D2.c), .d (.int .u8 D2.p), .d (.bool D2.deep), .d (.bool D2.pl), .d (.slw D2.vs.length 1 (u16D D2.vs))]⟩)], [2], []⟩, ⟨.ptr 3 0, [(3, some ⟨60, 4, [.d (.int .u8 a0), .d (.int .u8 a1), .d (.int .u8 a2), .d (.int .u8 a3)]⟩)], [3], []⟩, ⟨.d (.bool false), [], [], []⟩] (by kernel_rfl) (by kernel_rfl) (fun id _ => hG id) ?_ ?_
  · exact okY rfl (LT_box (x := .agg [.d (.int .u8 D.w), .d (.int .u8 D.h), .d (.int .u8 D.c), .d (.int .u8 D.p), .d (.bool D.deep), .d (.bool D.pl), .d (.slw D.vs.length 1 (u16D D.vs))]) 1 rfl rfl rfl 7 rfl (List.Mem.head _)) <| okY rfl (LT_box (x := .agg [.d (.int .u8 D2.w), .d (.int .u8 D2.h), .d (.int .u8 D2.c), .d (.int .u8 D2.p), .d (.bool D2.deep), .d (.bool D2.pl), .d (.slw D2.vs.length 1 (u16D D2.vs))]) 2 rfl rfl rfl 7 rfl (List.Mem.head _)) <| okY rfl (LT_box (x := .agg [.d (.int .u8 a0), .d (.int .u8 a1), .d (.int .u8 a2), .d (.int .u8 a3)]) 3 rfl rfl rfl 4 rfl (List.Mem.head _)) <| okY rfl (LT_assign rfl rfl) <| okE
  change AW _ _ _ _ _ _
  refine aw_weak (weak_of [(3, .ptr 1 0), (4, .ptr 2 0), (5, .ptr 3 0)] [(1, some ⟨24, 7, [.d (.int .u8 D.w), .d (.int .u8 D.h), .d (.int .u8 D.c), .d (.int .u8 D.p), .d (.bool D.deep), .d (.bool D.pl), .d (.slw D.vs.length 1 (u16D D.vs))]⟩), (2, some ⟨24, 7, [.d (.int .u8 D2.w), .d (.int .u8 D2.h), .d (.int .u8 D2.c), .d (.int .u8 D2.p), .d (.bool D2.deep), .d (.bool D2.pl), .d (.slw D2.vs.length 1 (u16D D2.vs))]⟩), (3, some ⟨60, 4, [.d (.int .u8 a0), .d (.int .u8 a1), .d (.int .u8 a2), .d (.int .u8 a3)]⟩)] [1, 2, 3] (sE rfl (sE rfl (sE rfl sE0))) (sH rfl (sH rfl (sH rfl sH0))) (by kernel_rfl)) ?_
  refine aw_seq ?_
  refine aw_seq ?_
  refine aw_region_seq [⟨.d (.bool true), [], [], []⟩, ⟨.d (.bool false), [], [], []⟩] (by kernel_rfl) (by kernel_rfl) (fun id _ => hG id) ?_ ?_
  · exact okY rfl (LT_call [] rfl rfl Try.call11 rfl (pc_wakes.ct rfl)) <| okY rfl (LT_not rfl rfl rfl) <| okE
  change AW _ _ _ _ _ _
  refine aw_weak (weak_of [(3, .ptr 1 0), (4, .ptr 2 0), (5, .ptr 3 0), (24, .d (.bool false))] [(1, some ⟨24, 7, [.d (.int .u8 D.w), .d (.int .u8 D.h), .d (.int .u8 D.c), .d (.int .u8 D.p), .d (.bool D.deep), .d (.bool D.pl), .d (.slw D.vs.length 1 (u16D D.vs))]⟩), (2, some ⟨24, 7, [.d (.int .u8 D2.w), .d (.int .u8 D2.h), .d (.int .u8 D2.c), .d (.int .u8 D2.p), .d (.bool D2.deep), .d (.bool D2.pl), .d (.slw D2.vs.length 1 (u16D D2.vs))]⟩), (3, some ⟨60, 4, [.d (.int .u8 a0), .d (.int .u8 a1), .d (.int .u8 a2), .d (.int .u8 a3)]⟩)] [1, 2, 3] (sE rfl (sE rfl (sE rfl (sE rfl sE0)))) (sH rfl (sH rfl (sH rfl sH0))) (by kernel_rfl)) ?_
  refine aw_condF rfl ?_
  refine aw_skip ?_
  change AW _ _ _ _ _ _
  refine aw_weak (weak_of [(3, .ptr 1 0), (4, .ptr 2 0), (5, .ptr 3 0)] [(1, some ⟨24, 7, [.d (.int .u8 D.w), .d (.int .u8 D.h), .d (.int .u8 D.c), .d (.int .u8 D.p), .d (.bool D.deep), .d (.bool D.pl), .d (.slw D.vs.length 1 (u16D D.vs))]⟩), (2, some ⟨24, 7, [.d (.int .u8 D2.w), .d (.int .u8 D2.h), .d (.int .u8 D2.c), .d (.int .u8 D2.p), .d (.bool D2.deep), .d (.bool D2.pl), .d (.slw D2.vs.length 1 (u16D D2.vs))]⟩), (3, some ⟨60, 4, [.d (.int .u8 a0), .d (.int .u8 a1), .d (.int .u8 a2), .d (.int .u8 a3)]⟩)] [1, 2, 3] (sE rfl (sE rfl (sE rfl sE0))) (sH rfl (sH rfl (sH rfl sH0))) (by kernel_rfl)) ?_
  refine aw_seq ?_
  refine aw_region_seq [⟨.agg [.d (.int .u8 D.w), .d (.int .u8 D.h), .d (.int .u8 D.c), .d (.int .u8 D.p), .d (.bool D.deep), .d (.bool D.pl), .d (.slw D.vs.length 1 (u16D D.vs))], [], [], [1]⟩, ⟨.agg [.d (.int .i64 ((W : Nat) : Int)), .d (.int .i64 ((H : Nat) : Int)), .d (.int .i64 ((n : Nat) : Int)), .d (.int .i64 B), .d (.bool pl0), .d (.int .i64 P0), .d (.str O)], [], [], []⟩, ⟨.ptr 4 0, [(4, some ⟨31, 7, [.d (.int .i64 0), .d (.int .i64 0), .d (.int .i64 0), .d (.int .i64 0), .d (.bool false), .d (.int .i64 0), .d (.str (⟨#[]⟩))]⟩)], [4], []⟩, ⟨.tup [], [(4, some ⟨31, 7, [.d (.int .i64 ((W : Nat) : Int)), .d (.int .i64 ((H : Nat) : Int)), .d (.int .i64 ((n : Nat) : Int)), .d (.int .i64 B), .d (.bool pl0), .d (.int .i64 P0), .d (.str O)]⟩)], [], [4]⟩] (by kernel_rfl) (by kernel_rfl) (fun id _ => hG id) ?_ ?_
  · exact okY rfl (LT_load 7 rfl rfl rfl (List.Mem.head _) Try.underlying24 inf24 (by simp) (.inl ⟨rfl, rfl, rfl⟩)) <| okY rfl (LT_call [.agg [.d (.int .u8 D.w), .d (.int .u8 D.h), .d (.int .u8 D.c), .d (.int .u8 D.p), .d (.bool D.deep), .d (.bool D.pl), .d (.slw D.vs.length 1 (u16D D.vs))]] rfl rfl Try.call24 rfl ((pc_image' hD hm).ct rfl)) <| okY rfl (LT_alloc 4 rfl inf31 rfl 7 rfl (List.Mem.head _)) <| okY rfl (LT_store (ob := ⟨31, 7, [.d (.int .i64 0), .d (.int .i64 0), .d (.int .i64 0), .d (.int .i64 0), .d (.bool false), .d (.int .i64 0), .d (.str (⟨#[]⟩))]⟩) (x := .agg [.d (.int .i64 ((W : Nat) : Int)), .d (.int .i64 ((H : Nat) : Int)), .d (.int .i64 ((n : Nat) : Int)), .d (.int .i64 B), .d (.bool pl0), .d (.int .i64 P0), .d (.str O)]) rfl rfl rfl (List.Mem.head _) inf31 rfl rfl rfl (by simp [X.cells]) _ rfl) <| okE
  change AW _ _ _ _ _ _
  refine aw_weak (weak_of [(4, .ptr 2 0), (5, .ptr 3 0), (7, .ptr 4 0)] [(2, some ⟨24, 7, [.d (.int .u8 D2.w), .d (.int .u8 D2.h), .d (.int .u8 D2.c), .d (.int .u8 D2.p), .d (.bool D2.deep), .d (.bool D2.pl), .d (.slw D2.vs.length 1 (u16D D2.vs))]⟩), (3, some ⟨60, 4, [.d (.int .u8 a0), .d (.int .u8 a1), .d (.int .u8 a2), .d (.int .u8 a3)]⟩), (4, some ⟨31, 7, [.d (.int .i64 ((W : Nat) : Int)), .d (.int .i64 ((H : Nat) : Int)), .d (.int .i64 ((n : Nat) : Int)), .d (.int .i64 B), .d (.bool pl0), .d (.int .i64 P0), .d (.str O)]⟩)] [2, 3, 4] (sE rfl (sE rfl (sE rfl sE0))) (sH rfl (sH rfl (sH rfl sH0))) (by kernel_rfl)) ?_
  refine aw_seq ?_
  refine aw_region_any rfl [⟨.ptr 3 0, [], [], []⟩, ⟨.d (.int .u8 a0), [], [], [3]⟩, ⟨.d (.int .i64 a0), [], [], []⟩, ⟨.ptr 4 0, [], [], []⟩, ⟨.d (.int .i64 ((W : Nat) : Int)), [], [], [4]⟩, ⟨.d (.int .i64 x), [], [], []⟩, ⟨.ptr 3 1, [], [], []⟩, ⟨.d (.int .u8 a1), [], [], [3]⟩, ⟨.d (.int .i64 a1), [], [], []⟩, ⟨.ptr 4 1, [], [], []⟩, ⟨.d (.int .i64 ((H : Nat) : Int)), [], [], [4]⟩, ⟨.d (.int .i64 y), [], [], []⟩, ⟨.d (.int .i64 x), [], [], []⟩, ⟨.d (.int .i64 y), [], [], []⟩] (by kernel_rfl) (by kernel_rfl) (by kernel_rfl) (fun id _ => hG id) ?_ ?_
  · exact okY rfl (LT_indexArr rfl rfl rfl Try.underlying60 inf5 (by decide) (by decide) _ rfl) <| okY rfl (LT_load 1 rfl rfl rfl (List.Mem.head _) Try.underlying5 inf5 (by simp) (.inr ⟨rfl, rfl, rfl⟩)) <| okY rfl (LT_conv rfl Try.underlying5 Try.underlying3 rfl (wi64 (by omega) (by omega))) <| okY rfl (LT_fieldAddr rfl rfl Try.underlying31 rfl inf3 (by decide) _ rfl) <| okY rfl (LT_load 1 rfl rfl rfl (List.Mem.head _) Try.underlying3 inf3 (by simp) (.inr ⟨rfl, rfl, rfl⟩)) <| okY rfl (LT_rem rfl rfl rfl (by omega) (hx ▸ Int.tmod_eq_emod_of_nonneg (by omega))) <| okY rfl (LT_indexArr rfl rfl rfl Try.underlying60 inf5 (by decide) (by decide) _ rfl) <| okY rfl (LT_load 1 rfl rfl rfl (List.Mem.head _) Try.underlying5 inf5 (by simp) (.inr ⟨rfl, rfl, rfl⟩)) <| okY rfl (LT_conv rfl Try.underlying5 Try.underlying3 rfl (wi64 (by omega) (by omega))) <| okY rfl (LT_fieldAddr rfl rfl Try.underlying31 rfl inf3 (by decide) _ rfl) <| okY rfl (LT_load 1 rfl rfl rfl (List.Mem.head _) Try.underlying3 inf3 (by simp) (.inr ⟨rfl, rfl, rfl⟩)) <| okY rfl (LT_rem rfl rfl rfl (by omega) (hy ▸ Int.tmod_eq_emod_of_nonneg (by omega))) <| okY rfl (LT_assign rfl rfl) <| okY rfl (LT_assign rfl rfl) <| okE
  change AW _ _ _ _ _ _
  refine aw_weak (weak_of [(4, .ptr 2 0), (5, .ptr 3 0), (7, .ptr 4 0), (8, .d (.int .i64 x)), (9, .d (.int .i64 y))] [(2, some ⟨24, 7, [.d (.int .u8 D2.w), .d (.int .u8 D2.h), .d (.int .u8 D2.c), .d (.int .u8 D2.p), .d (.bool D2.deep), .d (.bool D2.pl), .d (.slw D2.vs.length 1 (u16D D2.vs))]⟩), (3, some ⟨60, 4, [.d (.int .u8 a0), .d (.int .u8 a1), .d (.int .u8 a2), .d (.int .u8 a3)]⟩), (4, some ⟨31, 7, [.d (.int .i64 ((W : Nat) : Int)), .d (.int .i64 ((H : Nat) : Int)), .d (.int .i64 ((n : Nat) : Int)), .d (.int .i64 B), .d (.bool pl0), .d (.int .i64 P0), .d (.str O)]⟩)] [2, 3, 4] (sE rfl (sE rfl (sE rfl (sE rfl (sE rfl sE0))))) (sH rfl (sH rfl (sH rfl sH0))) (by kernel_rfl)) ?_
  refine aw_seq ?_
  refine aw_region_any rfl [⟨.ptr 3 2, [], [], []⟩, ⟨.d (.int .u8 a2), [], [], [3]⟩, ⟨.d (.int .i64 a2), [], [], []⟩, ⟨.ptr 4 0, [], [], []⟩, ⟨.d (.int .i64 ((W : Nat) : Int)), [], [], [4]⟩, ⟨.d (.int .i64 x), [], [], []⟩, ⟨.d (.int .i64 (((W : Nat) : Int) - x)), [], [], []⟩, ⟨.d (.int .i64 q), [], [], []⟩, ⟨.d (.int .i64 wide), [], [], []⟩, ⟨.ptr 3 3, [], [], []⟩, ⟨.d (.int .u8 a3), [], [], [3]⟩, ⟨.d (.int .i64 a3), [], [], []⟩, ⟨.ptr 4 1, [], [], []⟩, ⟨.d (.int .i64 ((H : Nat) : Int)), [], [], [4]⟩, ⟨.d (.int .i64 y), [], [], []⟩, ⟨.d (.int .i64 (((H : Nat) : Int) - y)), [], [], []⟩, ⟨.d (.int .i64 q'), [], [], []⟩, ⟨.d (.int .i64 high), [], [], []⟩, ⟨.d (.int .i64 wide), [], [], []⟩, ⟨.d (.int .i64 high), [], [], []⟩] (by kernel_rfl) (by kernel_rfl) (by kernel_rfl) (fun id _ => hG id) ?_ ?_
  · exact okY rfl (LT_indexArr rfl rfl rfl Try.underlying60 inf5 (by decide) (by decide) _ rfl) <| okY rfl (LT_load 1 rfl rfl rfl (List.Mem.head _) Try.underlying5 inf5 (by simp) (.inr ⟨rfl, rfl, rfl⟩)) <| okY rfl (LT_conv rfl Try.underlying5 Try.underlying3 rfl (wi64 (by omega) (by omega))) <| okY rfl (LT_fieldAddr rfl rfl Try.underlying31 rfl inf3 (by decide) _ rfl) <| okY rfl (LT_load 1 rfl rfl rfl (List.Mem.head _) Try.underlying3 inf3 (by simp) (.inr ⟨rfl, rfl, rfl⟩)) <| okY rfl (LT_move rfl rfl) <| okY rfl (LT_sub rfl rfl rfl (wi64 (by omega) (by omega))) <| okY rfl (LT_rem rfl rfl rfl (by omega) (hq ▸ Int.tmod_eq_emod_of_nonneg (by omega))) <| okY rfl (LT_add rfl rfl rfl (by rw [wi64 (by omega) (by omega)]; omega)) <| okY rfl (LT_indexArr rfl rfl rfl Try.underlying60 inf5 (by decide) (by decide) _ rfl) <| okY rfl (LT_load 1 rfl rfl rfl (List.Mem.head _) Try.underlying5 inf5 (by simp) (.inr ⟨rfl, rfl, rfl⟩)) <| okY rfl (LT_conv rfl Try.underlying5 Try.underlying3 rfl (wi64 (by omega) (by omega))) <| okY rfl (LT_fieldAddr rfl rfl Try.underlying31 rfl inf3 (by decide) _ rfl) <| okY rfl (LT_load 1 rfl rfl rfl (List.Mem.head _) Try.underlying3 inf3 (by simp) (.inr ⟨rfl, rfl, rfl⟩)) <| okY rfl (LT_move rfl rfl) <| okY rfl (LT_sub rfl rfl rfl (wi64 (by omega) (by omega))) <| okY rfl (LT_rem rfl rfl rfl (by omega) (hq' ▸ Int.tmod_eq_emod_of_nonneg (by omega))) <| okY rfl (LT_add rfl rfl rfl (by rw [wi64 (by omega) (by omega)]; omega)) <| okY rfl (LT_assign rfl rfl) <| okY rfl (LT_assign rfl rfl) <| okE
  change AW _ _ _ _ _ _
  refine aw_weak (weak_of [(4, .ptr 2 0), (7, .ptr 4 0), (8, .d (.int .i64 x)), (9, .d (.int .i64 y)), (10, .d (.int .i64 wide)), (11, .d (.int .i64 high))] [(2, some ⟨24, 7, [.d (.int .u8 D2.w), .d (.int .u8 D2.h), .d (.int .u8 D2.c), .d (.int .u8 D2.p), .d (.bool D2.deep), .d (.bool D2.pl), .d (.slw D2.vs.length 1 (u16D D2.vs))]⟩), (4, some ⟨31, 7, [.d (.int .i64 ((W : Nat) : Int)), .d (.int .i64 ((H : Nat) : Int)), .d (.int .i64 ((n : Nat) : Int)), .d (.int .i64 B), .d (.bool pl0), .d (.int .i64 P0), .d (.str O)]⟩)] [2, 4] (sE rfl (sE rfl (sE rfl (sE rfl (sE rfl (sE rfl sE0)))))) (sH rfl (sH rfl sH0)) (by kernel_rfl)) ?_
  refine aw_seq ?_
  refine aw_region_seq [⟨.agg [.d (.int .i64 ((W : Nat) : Int)), .d (.int .i64 ((H : Nat) : Int)), .d (.int .i64 ((n : Nat) : Int)), .d (.int .i64 B), .d (.bool pl0), .d (.int .i64 P0), .d (.str O)], [], [], [4]⟩, ⟨.d (.int .i64 x), [], [], []⟩, ⟨.d (.int .i64 y), [], [], []⟩, ⟨.d (.int .i64 wide), [], [], []⟩, ⟨.d (.int .i64 high), [], [], []⟩, ⟨.tup [.agg [.d (.int .i64 wide), .d (.int .i64 high), .d (.int .i64 ((n : Nat) : Int)), .d (.int .i64 B), .d (.bool pl0), .d (.int .i64 P0), .d (.str OPT)], .d (.int .i64 0)], [], [], []⟩, ⟨.tup [.agg [.d (.int .i64 wide), .d (.int .i64 high), .d (.int .i64 ((n : Nat) : Int)), .d (.int .i64 B), .d (.bool pl0), .d (.int .i64 P0), .d (.str OPT)], .d (.int .i64 0)], [], [], []⟩, ⟨.agg [.d (.int .i64 wide), .d (.int .i64 high), .d (.int .i64 ((n : Nat) : Int)), .d (.int .i64 B), .d (.bool pl0), .d (.int .i64 P0), .d (.str OPT)], [], [], []⟩, ⟨.d (.int .i64 0), [], [], []⟩, ⟨.ptr 5 0, [(5, some ⟨31, 7, [.d (.int .i64 0), .d (.int .i64 0), .d (.int .i64 0), .d (.int .i64 0), .d (.bool false), .d (.int .i64 0), .d (.str (⟨#[]⟩))]⟩)], [5], []⟩, ⟨.tup [], [(5, some ⟨31, 7, [.d (.int .i64 wide), .d (.int .i64 high), .d (.int .i64 ((n : Nat) : Int)), .d (.int .i64 B), .d (.bool pl0), .d (.int .i64 P0), .d (.str OPT)]⟩)], [], [5]⟩, ⟨.d (.int .i64 0), [], [], []⟩] (by kernel_rfl) (by kernel_rfl) (fun id _ => hG id) ?_ ?_
  · exact okY rfl (LT_load 7 rfl rfl rfl (List.Mem.head _) Try.underlying31 inf31 (by simp) (.inl ⟨rfl, rfl, rfl⟩)) <| okY rfl (LT_move rfl rfl) <| okY rfl (LT_move rfl rfl) <| okY rfl (LT_move rfl rfl) <| okY rfl (LT_move rfl rfl) <| okY rfl (LT_call [.agg [.d (.int .i64 ((W : Nat) : Int)), .d (.int .i64 ((H : Nat) : Int)), .d (.int .i64 ((n : Nat) : Int)), .d (.int .i64 B), .d (.bool pl0), .d (.int .i64 P0), .d (.str O)], .d (.int .i64 x), .d (.int .i64 y), .d (.int .i64 wide), .d (.int .i64 high)] rfl rfl Try.call28 rfl ((pc_cut' hc).ct rfl)) <| okY rfl (LT_move rfl rfl) <| okY rfl (LT_extract rfl rfl rfl) <| okY rfl (LT_extract rfl rfl rfl) <| okY rfl (LT_alloc 5 rfl inf31 rfl 7 rfl (List.Mem.head _)) <| okY rfl (LT_store (ob := ⟨31, 7, [.d (.int .i64 0), .d (.int .i64 0), .d (.int .i64 0), .d (.int .i64 0), .d (.bool false), .d (.int .i64 0), .d (.str (⟨#[]⟩))]⟩) (x := .agg [.d (.int .i64 wide), .d (.int .i64 high), .d (.int .i64 ((n : Nat) : Int)), .d (.int .i64 B), .d (.bool pl0), .d (.int .i64 P0), .d (.str OPT)]) rfl rfl rfl (List.Mem.head _) inf31 rfl rfl rfl (by simp [X.cells]) _ rfl) <| okY rfl (LT_assign rfl rfl) <| okE
  change AW _ _ _ _ _ _
  refine aw_weak (weak_of [(4, .ptr 2 0), (7, .ptr 4 0), (8, .d (.int .i64 x)), (9, .d (.int .i64 y)), (10, .d (.int .i64 wide)), (11, .d (.int .i64 high)), (12, .ptr 5 0), (13, .d (.int .i64 0))] [(2, some ⟨24, 7, [.d (.int .u8 D2.w), .d (.int .u8 D2.h), .d (.int .u8 D2.c), .d (.int .u8 D2.p), .d (.bool D2.deep), .d (.bool D2.pl), .d (.slw D2.vs.length 1 (u16D D2.vs))]⟩), (4, some ⟨31, 7, [.d (.int .i64 ((W : Nat) : Int)), .d (.int .i64 ((H : Nat) : Int)), .d (.int .i64 ((n : Nat) : Int)), .d (.int .i64 B), .d (.bool pl0), .d (.int .i64 P0), .d (.str O)]⟩), (5, some ⟨31, 7, [.d (.int .i64 wide), .d (.int .i64 high), .d (.int .i64 ((n : Nat) : Int)), .d (.int .i64 B), .d (.bool pl0), .d (.int .i64 P0), .d (.str OPT)]⟩)] [2, 4, 5] (sE rfl (sE rfl (sE rfl (sE rfl (sE rfl (sE rfl (sE rfl (sE rfl sE0)))))))) (sH rfl (sH rfl (sH rfl sH0))) (by kernel_rfl)) ?_
  refine aw_seq ?_
  refine aw_region_seq [⟨.agg [.d (.int .i64 ((W : Nat) : Int)), .d (.int .i64 ((H : Nat) : Int)), .d (.int .i64 ((n : Nat) : Int)), .d (.int .i64 B), .d (.bool pl0), .d (.int .i64 P0), .d (.str O)], [], [], [4]⟩, ⟨.agg [.d (.int .i64 wide), .d (.int .i64 high), .d (.int .i64 ((n : Nat) : Int)), .d (.int .i64 B), .d (.bool pl0), .d (.int .i64 P0), .d (.str OPT)], [], [], [5]⟩, ⟨.d (.int .i64 x), [], [], []⟩, ⟨.d (.int .i64 y), [], [], []⟩, ⟨.tup [.agg [.d (.int .i64 ((W : Nat) : Int)), .d (.int .i64 ((H : Nat) : Int)), .d (.int .i64 ((n : Nat) : Int)), .d (.int .i64 B), .d (.bool pl0), .d (.int .i64 P0), .d (.str O)], .d (.int .i64 0)], [], [], []⟩, ⟨.tup [.agg [.d (.int .i64 ((W : Nat) : Int)), .d (.int .i64 ((H : Nat) : Int)), .d (.int .i64 ((n : Nat) : Int)), .d (.int .i64 B), .d (.bool pl0), .d (.int .i64 P0), .d (.str O)], .d (.int .i64 0)], [], [], []⟩, ⟨.agg [.d (.int .i64 ((W : Nat) : Int)), .d (.int .i64 ((H : Nat) : Int)), .d (.int .i64 ((n : Nat) : Int)), .d (.int .i64 B), .d (.bool pl0), .d (.int .i64 P0), .d (.str O)], [], [], []⟩, ⟨.d (.int .i64 0), [], [], []⟩, ⟨.ptr 6 0, [(6, some ⟨31, 7, [.d (.int .i64 0), .d (.int .i64 0), .d (.int .i64 0), .d (.int .i64 0), .d (.bool false), .d (.int .i64 0), .d (.str (⟨#[]⟩))]⟩)], [6], []⟩, ⟨.tup [], [(6, some ⟨31, 7, [.d (.int .i64 ((W : Nat) : Int)), .d (.int .i64 ((H : Nat) : Int)), .d (.int .i64 ((n : Nat) : Int)), .d (.int .i64 B), .d (.bool pl0), .d (.int .i64 P0), .d (.str O)]⟩)], [], [6]⟩, ⟨.d (.int .i64 0), [], [], []⟩] (by kernel_rfl) (by kernel_rfl) (fun id _ => hG id) ?_ ?_
  · exact okY rfl (LT_load 7 rfl rfl rfl (List.Mem.head _) Try.underlying31 inf31 (by simp) (.inl ⟨rfl, rfl, rfl⟩)) <| okY rfl (LT_load 7 rfl rfl rfl (List.Mem.head _) Try.underlying31 inf31 (by simp) (.inl ⟨rfl, rfl, rfl⟩)) <| okY rfl (LT_move rfl rfl) <| okY rfl (LT_move rfl rfl) <| okY rfl (LT_call [.agg [.d (.int .i64 ((W : Nat) : Int)), .d (.int .i64 ((H : Nat) : Int)), .d (.int .i64 ((n : Nat) : Int)), .d (.int .i64 B), .d (.bool pl0), .d (.int .i64 P0), .d (.str O)], .agg [.d (.int .i64 wide), .d (.int .i64 high), .d (.int .i64 ((n : Nat) : Int)), .d (.int .i64 B), .d (.bool pl0), .d (.int .i64 P0), .d (.str OPT)], .d (.int .i64 x), .d (.int .i64 y)] rfl rfl Try.call31 rfl ((pc_paste' hs).ct rfl)) <| okY rfl (LT_move rfl rfl) <| okY rfl (LT_extract rfl rfl rfl) <| okY rfl (LT_extract rfl rfl rfl) <| okY rfl (LT_alloc 6 rfl inf31 rfl 7 rfl (List.Mem.head _)) <| okY rfl (LT_store (ob := ⟨31, 7, [.d (.int .i64 0), .d (.int .i64 0), .d (.int .i64 0), .d (.int .i64 0), .d (.bool false), .d (.int .i64 0), .d (.str (⟨#[]⟩))]⟩) (x := .agg [.d (.int .i64 ((W : Nat) : Int)), .d (.int .i64 ((H : Nat) : Int)), .d (.int .i64 ((n : Nat) : Int)), .d (.int .i64 B), .d (.bool pl0), .d (.int .i64 P0), .d (.str O)]) rfl rfl rfl (List.Mem.head _) inf31 rfl rfl rfl (by simp [X.cells]) _ rfl) <| okY rfl (LT_assign rfl rfl) <| okE
  change AW _ _ _ _ _ _
  refine aw_weak (weak_of [(4, .ptr 2 0), (7, .ptr 4 0), (8, .d (.int .i64 x)), (9, .d (.int .i64 y)), (10, .d (.int .i64 wide)), (11, .d (.int .i64 high)), (12, .ptr 5 0), (13, .d (.int .i64 0)), (14, .ptr 6 0), (15, .d (.int .i64 0))] [(2, some ⟨24, 7, [.d (.int .u8 D2.w), .d (.int .u8 D2.h), .d (.int .u8 D2.c), .d (.int .u8 D2.p), .d (.bool D2.deep), .d (.bool D2.pl), .d (.slw D2.vs.length 1 (u16D D2.vs))]⟩), (4, some ⟨31, 7, [.d (.int .i64 ((W : Nat) : Int)), .d (.int .i64 ((H : Nat) : Int)), .d (.int .i64 ((n : Nat) : Int)), .d (.int .i64 B), .d (.bool pl0), .d (.int .i64 P0), .d (.str O)]⟩), (5, some ⟨31, 7, [.d (.int .i64 wide), .d (.int .i64 high), .d (.int .i64 ((n : Nat) : Int)), .d (.int .i64 B), .d (.bool pl0), .d (.int .i64 P0), .d (.str OPT)]⟩), (6, some ⟨31, 7, [.d (.int .i64 ((W : Nat) : Int)), .d (.int .i64 ((H : Nat) : Int)), .d (.int .i64 ((n : Nat) : Int)), .d (.int .i64 B), .d (.bool pl0), .d (.int .i64 P0), .d (.str O)]⟩)] [2, 4, 5, 6] (sE rfl (sE rfl (sE rfl (sE rfl (sE rfl (sE rfl (sE rfl (sE rfl (sE rfl (sE rfl sE0)))))))))) (sH rfl (sH rfl (sH rfl (sH rfl sH0)))) (by kernel_rfl)) ?_
  refine aw_seq ?_
  refine aw_seq ?_
  refine aw_region_seq [⟨.d (.int .i64 0), [], [], []⟩, ⟨.d (.bool false), [], [], []⟩, ⟨.d (.bool false), [], [], []⟩, ⟨.d (.int .i64 0), [], [], []⟩, ⟨.d (.bool false), [], [], []⟩, ⟨.d (.bool false), [], [], []⟩, ⟨.d (.bool false), [], [], []⟩, ⟨.agg [.d (.int .i64 ((W : Nat) : Int)), .d (.int .i64 ((H : Nat) : Int)), .d (.int .i64 ((n : Nat) : Int)), .d (.int .i64 B), .d (.bool pl0), .d (.int .i64 P0), .d (.str O)], [], [], [6]⟩, ⟨.agg [.d (.int .i64 ((W : Nat) : Int)), .d (.int .i64 ((H : Nat) : Int)), .d (.int .i64 ((n : Nat) : Int)), .d (.int .i64 B), .d (.bool pl0), .d (.int .i64 P0), .d (.str O)], [], [], [4]⟩, ⟨.d (.bool false), [], [], []⟩, ⟨.d (.bool false), [], [], []⟩, ⟨.d (.bool false), [], [], []⟩, ⟨.ptr 5 0, [], [], []⟩, ⟨.d (.int .i64 wide), [], [], [5]⟩, ⟨.d (.int .i64 wide), [], [], []⟩, ⟨.d (.bool false), [], [], []⟩, ⟨.d (.bool false), [], [], []⟩, ⟨.d (.bool false), [], [], []⟩, ⟨.ptr 5 1, [], [], []⟩, ⟨.d (.int .i64 high), [], [], [5]⟩, ⟨.d (.int .i64 high), [], [], []⟩, ⟨.d (.bool false), [], [], []⟩, ⟨.d (.bool false), [], [], []⟩] (by kernel_rfl) (by kernel_rfl) (fun id _ => hG id) ?_ ?_
  · exact okY rfl (LT_move rfl rfl) <| okY rfl (LT_cmp rfl rfl rfl rfl rfl) <| okY rfl (LT_move rfl rfl) <| okY rfl (LT_move rfl rfl) <| okY rfl (LT_cmp rfl rfl rfl rfl rfl) <| okY rfl (LT_pick rfl rfl (fun h => by cases h) (fun _ _ _ _ _ h => h)) <| okY rfl (LT_move rfl rfl) <| okY rfl (LT_load 7 rfl rfl rfl (List.Mem.head _) Try.underlying31 inf31 (by simp) (.inl ⟨rfl, rfl, rfl⟩)) <| okY rfl (LT_load 7 rfl rfl rfl (List.Mem.head _) Try.underlying31 inf31 (by simp) (.inl ⟨rfl, rfl, rfl⟩)) <| okY rfl (LT_binX rfl rfl rfl rfl rfl rfl (neq_same ⟨⟨((W : Nat) : Int), ((H : Nat) : Int), ((n : Nat) : Int), B, pl0, P0⟩, O⟩).1 (neq_same ⟨⟨((W : Nat) : Int), ((H : Nat) : Int), ((n : Nat) : Int), B, pl0, P0⟩, O⟩).2) <| okY rfl (LT_pick rfl rfl (fun h => by cases h) (fun _ _ _ _ _ h => h)) <| okY rfl (LT_move rfl rfl) <| okY rfl (LT_fieldAddr rfl rfl Try.underlying31 rfl inf3 (by decide) _ rfl) <| okY rfl (LT_load 1 rfl rfl rfl (List.Mem.head _) Try.underlying3 inf3 (by simp) (.inr ⟨rfl, rfl, rfl⟩)) <| okY rfl (LT_move rfl rfl) <| okY rfl (LT_cmp rfl rfl rfl rfl (by simp [cmpI])) <| okY rfl (LT_pick rfl rfl (fun h => by cases h) (fun _ _ _ _ _ h => h)) <| okY rfl (LT_move rfl rfl) <| okY rfl (LT_fieldAddr rfl rfl Try.underlying31 rfl inf3 (by decide) _ rfl) <| okY rfl (LT_load 1 rfl rfl rfl (List.Mem.head _) Try.underlying3 inf3 (by simp) (.inr ⟨rfl, rfl, rfl⟩)) <| okY rfl (LT_move rfl rfl) <| okY rfl (LT_cmp rfl rfl rfl rfl (by simp [cmpI])) <| okY rfl (LT_pick rfl rfl (fun h => by cases h) (fun _ _ _ _ _ h => h)) <| okE
  change AW _ _ _ _ _ _
  refine aw_weak (weak_of [(4, .ptr 2 0), (7, .ptr 4 0), (8, .d (.int .i64 x)), (9, .d (.int .i64 y)), (10, .d (.int .i64 wide)), (11, .d (.int .i64 high)), (96, .d (.bool false))] [(2, some ⟨24, 7, [.d (.int .u8 D2.w), .d (.int .u8 D2.h), .d (.int .u8 D2.c), .d (.int .u8 D2.p), .d (.bool D2.deep), .d (.bool D2.pl), .d (.slw D2.vs.length 1 (u16D D2.vs))]⟩), (4, some ⟨31, 7, [.d (.int .i64 ((W : Nat) : Int)), .d (.int .i64 ((H : Nat) : Int)), .d (.int .i64 ((n : Nat) : Int)), .d (.int .i64 B), .d (.bool pl0), .d (.int .i64 P0), .d (.str O)]⟩)] [2, 4] (sE rfl (sE rfl (sE rfl (sE rfl (sE rfl (sE rfl (sE rfl sE0))))))) (sH rfl (sH rfl sH0)) (by kernel_rfl)) ?_
  refine aw_condF rfl ?_
  refine aw_skip ?_
  change AW _ _ _ _ _ _
  refine aw_weak (weak_of [(4, .ptr 2 0), (7, .ptr 4 0), (8, .d (.int .i64 x)), (9, .d (.int .i64 y)), (10, .d (.int .i64 wide)), (11, .d (.int .i64 high))] [(2, some ⟨24, 7, [.d (.int .u8 D2.w), .d (.int .u8 D2.h), .d (.int .u8 D2.c), .d (.int .u8 D2.p), .d (.bool D2.deep), .d (.bool D2.pl), .d (.slw D2.vs.length 1 (u16D D2.vs))]⟩), (4, some ⟨31, 7, [.d (.int .i64 ((W : Nat) : Int)), .d (.int .i64 ((H : Nat) : Int)), .d (.int .i64 ((n : Nat) : Int)), .d (.int .i64 B), .d (.bool pl0), .d (.int .i64 P0), .d (.str O)]⟩)] [2, 4] (sE rfl (sE rfl (sE rfl (sE rfl (sE rfl (sE rfl sE0)))))) (sH rfl (sH rfl sH0)) (by kernel_rfl)) ?_
  refine aw_seq ?_
  refine aw_region_seq [⟨.ptr 4 3, [], [], []⟩, ⟨.d (.int .i64 B), [], [], [4]⟩, ⟨.d (.bool ((B : Int) == 16)), [], [], []⟩, ⟨.ptr 2 4, [], [], []⟩, ⟨.tup [], [(2, some ⟨24, 7, [.d (.int .u8 D2.w), .d (.int .u8 D2.h), .d (.int .u8 D2.c), .d (.int .u8 D2.p), .d (.bool ((B : Int) == 16)), .d (.bool D2.pl), .d (.slw D2.vs.length 1 (u16D D2.vs))]⟩)], [], [2]⟩] (by kernel_rfl) (by kernel_rfl) (fun id _ => hG id) ?_ ?_
  · exact okY rfl (LT_fieldAddr rfl rfl Try.underlying31 rfl inf3 (by decide) _ rfl) <| okY rfl (LT_load 1 rfl rfl rfl (List.Mem.head _) Try.underlying3 inf3 (by simp) (.inr ⟨rfl, rfl, rfl⟩)) <| okY rfl (LT_cmp rfl rfl rfl rfl rfl) <| okY rfl (LT_fieldAddr rfl rfl Try.underlying24 rfl inf4 (by decide) _ rfl) <| okY rfl (LT_store (ob := ⟨24, 7, [.d (.int .u8 D2.w), .d (.int .u8 D2.h), .d (.int .u8 D2.c), .d (.int .u8 D2.p), .d (.bool D2.deep), .d (.bool D2.pl), .d (.slw D2.vs.length 1 (u16D D2.vs))]⟩) (x := .d (.bool ((B : Int) == 16))) rfl rfl rfl (List.Mem.head _) inf4 rfl rfl rfl (by simp [X.cells]) _ rfl) <| okE
  change AW _ _ _ _ _ _
  refine aw_weak (weak_of [(4, .ptr 2 0), (7, .ptr 4 0), (8, .d (.int .i64 x)), (9, .d (.int .i64 y)), (10, .d (.int .i64 wide)), (11, .d (.int .i64 high))] [(2, some ⟨24, 7, [.d (.int .u8 D2.w), .d (.int .u8 D2.h), .d (.int .u8 D2.c), .d (.int .u8 D2.p), .d (.bool ((B : Int) == 16)), .d (.bool D2.pl), .d (.slw D2.vs.length 1 (u16D D2.vs))]⟩), (4, some ⟨31, 7, [.d (.int .i64 ((W : Nat) : Int)), .d (.int .i64 ((H : Nat) : Int)), .d (.int .i64 ((n : Nat) : Int)), .d (.int .i64 B), .d (.bool pl0), .d (.int .i64 P0), .d (.str O)]⟩)] [2, 4] (sE rfl (sE rfl (sE rfl (sE rfl (sE rfl (sE rfl sE0)))))) (sH rfl (sH rfl sH0)) (by kernel_rfl)) ?_
  refine aw_seq ?_
  refine aw_region_seq [⟨.agg [.d (.int .u8 D2.w), .d (.int .u8 D2.h), .d (.int .u8 D2.c), .d (.int .u8 D2.p), .d (.bool ((B : Int) == 16)), .d (.bool D2.pl), .d (.slw D2.vs.length 1 (u16D D2.vs))], [], [], [2]⟩, ⟨.ptr 4 2, [], [], []⟩, ⟨.d (.int .i64 ((n : Nat) : Int)), [], [], [4]⟩, ⟨.agg [.d (.int .i64 ow), .d (.int .i64 oh), .d (.int .i64 ((n : Nat) : Int)), .d (.int .i64 B), .d (.bool plo), .d (.int .i64 Po), .d (.str OO)], [], [], []⟩, ⟨.ptr 7 0, [(7, some ⟨31, 7, [.d (.int .i64 0), .d (.int .i64 0), .d (.int .i64 0), .d (.int .i64 0), .d (.bool false), .d (.int .i64 0), .d (.str (⟨#[]⟩))]⟩)], [7], []⟩, ⟨.tup [], [(7, some ⟨31, 7, [.d (.int .i64 ow), .d (.int .i64 oh), .d (.int .i64 ((n : Nat) : Int)), .d (.int .i64 B), .d (.bool plo), .d (.int .i64 Po), .d (.str OO)]⟩)], [], [7]⟩] (by kernel_rfl) (by kernel_rfl) (fun id _ => hG id) ?_ ?_
  · exact okY rfl (LT_load 7 rfl rfl rfl (List.Mem.head _) Try.underlying24 inf24 (by simp) (.inl ⟨rfl, rfl, rfl⟩)) <| okY rfl (LT_fieldAddr rfl rfl Try.underlying31 rfl inf3 (by decide) _ rfl) <| okY rfl (LT_load 1 rfl rfl rfl (List.Mem.head _) Try.underlying3 inf3 (by simp) (.inr ⟨rfl, rfl, rfl⟩)) <| okY rfl (LT_call [.agg [.d (.int .u8 D2.w), .d (.int .u8 D2.h), .d (.int .u8 D2.c), .d (.int .u8 D2.p), .d (.bool ((B : Int) == 16)), .d (.bool D2.pl), .d (.slw D2.vs.length 1 (u16D D2.vs))], .d (.int .i64 ((n : Nat) : Int))] rfl rfl Try.call30 rfl ((pc_some' (D := ⟨D2.w, D2.h, D2.c, D2.p, ((B : Int) == 16), D2.pl, D2.vs⟩) hD2 (by omega) (by omega) hso).ct rfl)) <| okY rfl (LT_alloc 7 rfl inf31 rfl 7 rfl (List.Mem.head _)) <| okY rfl (LT_store (ob := ⟨31, 7, [.d (.int .i64 0), .d (.int .i64 0), .d (.int .i64 0), .d (.int .i64 0), .d (.bool false), .d (.int .i64 0), .d (.str (⟨#[]⟩))]⟩) (x := .agg [.d (.int .i64 ow), .d (.int .i64 oh), .d (.int .i64 ((n : Nat) : Int)), .d (.int .i64 B), .d (.bool plo), .d (.int .i64 Po), .d (.str OO)]) rfl rfl rfl (List.Mem.head _) inf31 rfl rfl rfl (by simp [X.cells]) _ rfl) <| okE
  change AW _ _ _ _ _ _
  refine aw_weak (weak_of [(7, .ptr 4 0), (8, .d (.int .i64 x)), (9, .d (.int .i64 y)), (10, .d (.int .i64 wide)), (11, .d (.int .i64 high)), (16, .ptr 7 0)] [(4, some ⟨31, 7, [.d (.int .i64 ((W : Nat) : Int)), .d (.int .i64 ((H : Nat) : Int)), .d (.int .i64 ((n : Nat) : Int)), .d (.int .i64 B), .d (.bool pl0), .d (.int .i64 P0), .d (.str O)]⟩), (7, some ⟨31, 7, [.d (.int .i64 ow), .d (.int .i64 oh), .d (.int .i64 ((n : Nat) : Int)), .d (.int .i64 B), .d (.bool plo), .d (.int .i64 Po), .d (.str OO)]⟩)] [4, 7] (sE rfl (sE rfl (sE rfl (sE rfl (sE rfl (sE rfl sE0)))))) (sH rfl (sH rfl sH0)) (by kernel_rfl)) ?_
  refine aw_seq ?_
  refine aw_region_seq [⟨.agg [.d (.int .i64 ow), .d (.int .i64 oh), .d (.int .i64 ((n : Nat) : Int)), .d (.int .i64 B), .d (.bool plo), .d (.int .i64 Po), .d (.str OO)], [], [], [7]⟩, ⟨.ptr 7 0, [], [], []⟩, ⟨.d (.int .i64 ow), [], [], [7]⟩, ⟨.d (.int .i64 wide), [], [], []⟩, ⟨.d (.int .i64 ((pw : Nat) : Int)), [], [], []⟩, ⟨.ptr 7 1, [], [], []⟩, ⟨.d (.int .i64 oh), [], [], [7]⟩, ⟨.d (.int .i64 high), [], [], []⟩, ⟨.d (.int .i64 ((ph : Nat) : Int)), [], [], []⟩, ⟨.tup [.agg [.d (.int .i64 ((pw : Nat) : Int)), .d (.int .i64 ((ph : Nat) : Int)), .d (.int .i64 ((n : Nat) : Int)), .d (.int .i64 B), .d (.bool plo), .d (.int .i64 Po), .d (.str OP)], .d (.int .i64 0)], [], [], []⟩, ⟨.tup [.agg [.d (.int .i64 ((pw : Nat) : Int)), .d (.int .i64 ((ph : Nat) : Int)), .d (.int .i64 ((n : Nat) : Int)), .d (.int .i64 B), .d (.bool plo), .d (.int .i64 Po), .d (.str OP)], .d (.int .i64 0)], [], [], []⟩, ⟨.agg [.d (.int .i64 ((pw : Nat) : Int)), .d (.int .i64 ((ph : Nat) : Int)), .d (.int .i64 ((n : Nat) : Int)), .d (.int .i64 B), .d (.bool plo), .d (.int .i64 Po), .d (.str OP)], [], [], []⟩, ⟨.d (.int .i64 0), [], [], []⟩, ⟨.ptr 8 0, [(8, some ⟨31, 7, [.d (.int .i64 0), .d (.int .i64 0), .d (.int .i64 0), .d (.int .i64 0), .d (.bool false), .d (.int .i64 0), .d (.str (⟨#[]⟩))]⟩)], [8], []⟩, ⟨.tup [], [(8, some ⟨31, 7, [.d (.int .i64 ((pw : Nat) : Int)), .d (.int .i64 ((ph : Nat) : Int)), .d (.int .i64 ((n : Nat) : Int)), .d (.int .i64 B), .d (.bool plo), .d (.int .i64 Po), .d (.str OP)]⟩)], [], [8]⟩, ⟨.d (.int .i64 0), [], [], []⟩] (by kernel_rfl) (by kernel_rfl) (fun id _ => hG id) ?_ ?_
  · exact okY rfl (LT_load 7 rfl rfl rfl (List.Mem.head _) Try.underlying31 inf31 (by simp) (.inl ⟨rfl, rfl, rfl⟩)) <| okY rfl (LT_fieldAddr rfl rfl Try.underlying31 rfl inf3 (by decide) _ rfl) <| okY rfl (LT_load 1 rfl rfl rfl (List.Mem.head _) Try.underlying3 inf3 (by simp) (.inr ⟨rfl, rfl, rfl⟩)) <| okY rfl (LT_move rfl rfl) <| okY rfl (LT_min2 rfl rfl rfl hpw) <| okY rfl (LT_fieldAddr rfl rfl Try.underlying31 rfl inf3 (by decide) _ rfl) <| okY rfl (LT_load 1 rfl rfl rfl (List.Mem.head _) Try.underlying3 inf3 (by simp) (.inr ⟨rfl, rfl, rfl⟩)) <| okY rfl (LT_move rfl rfl) <| okY rfl (LT_min2 rfl rfl rfl hph) <| okY rfl (LT_call [.agg [.d (.int .i64 ow), .d (.int .i64 oh), .d (.int .i64 ((n : Nat) : Int)), .d (.int .i64 B), .d (.bool plo), .d (.int .i64 Po), .d (.str OO)], .d (.int .i64 0), .d (.int .i64 0), .d (.int .i64 ((pw : Nat) : Int)), .d (.int .i64 ((ph : Nat) : Int))] rfl rfl Try.call28 rfl ((pc_cut' hp).ct rfl)) <| okY rfl (LT_move rfl rfl) <| okY rfl (LT_extract rfl rfl rfl) <| okY rfl (LT_extract rfl rfl rfl) <| okY rfl (LT_alloc 8 rfl inf31 rfl 7 rfl (List.Mem.head _)) <| okY rfl (LT_store (ob := ⟨31, 7, [.d (.int .i64 0), .d (.int .i64 0), .d (.int .i64 0), .d (.int .i64 0), .d (.bool false), .d (.int .i64 0), .d (.str (⟨#[]⟩))]⟩) (x := .agg [.d (.int .i64 ((pw : Nat) : Int)), .d (.int .i64 ((ph : Nat) : Int)), .d (.int .i64 ((n : Nat) : Int)), .d (.int .i64 B), .d (.bool plo), .d (.int .i64 Po), .d (.str OP)]) rfl rfl rfl (List.Mem.head _) inf31 rfl rfl rfl (by simp [X.cells]) _ rfl) <| okY rfl (LT_assign rfl rfl) <| okE
  change AW _ _ _ _ _ _
  refine aw_weak (weak_of [(7, .ptr 4 0), (8, .d (.int .i64 x)), (9, .d (.int .i64 y)), (17, .ptr 8 0), (18, .d (.int .i64 0))] [(4, some ⟨31, 7, [.d (.int .i64 ((W : Nat) : Int)), .d (.int .i64 ((H : Nat) : Int)), .d (.int .i64 ((n : Nat) : Int)), .d (.int .i64 B), .d (.bool pl0), .d (.int .i64 P0), .d (.str O)]⟩), (8, some ⟨31, 7, [.d (.int .i64 ((pw : Nat) : Int)), .d (.int .i64 ((ph : Nat) : Int)), .d (.int .i64 ((n : Nat) : Int)), .d (.int .i64 B), .d (.bool plo), .d (.int .i64 Po), .d (.str OP)]⟩)] [4, 8] (sE rfl (sE rfl (sE rfl (sE rfl (sE rfl sE0))))) (sH rfl (sH rfl sH0)) (by kernel_rfl)) ?_
  refine aw_seq ?_
  refine aw_region_seq [⟨.agg [.d (.int .i64 ((W : Nat) : Int)), .d (.int .i64 ((H : Nat) : Int)), .d (.int .i64 ((n : Nat) : Int)), .d (.int .i64 B), .d (.bool pl0), .d (.int .i64 P0), .d (.str O)], [], [], [4]⟩, ⟨.agg [.d (.int .i64 ((pw : Nat) : Int)), .d (.int .i64 ((ph : Nat) : Int)), .d (.int .i64 ((n : Nat) : Int)), .d (.int .i64 B), .d (.bool plo), .d (.int .i64 Po), .d (.str OP)], [], [], [8]⟩, ⟨.d (.int .i64 x), [], [], []⟩, ⟨.d (.int .i64 y), [], [], []⟩, ⟨.tup [.agg [.d (.int .i64 ((W : Nat) : Int)), .d (.int .i64 ((H : Nat) : Int)), .d (.int .i64 ((n : Nat) : Int)), .d (.int .i64 B), .d (.bool pl0), .d (.int .i64 P0), .d (.str OW)], .d (.int .i64 0)], [], [], []⟩, ⟨.tup [.agg [.d (.int .i64 ((W : Nat) : Int)), .d (.int .i64 ((H : Nat) : Int)), .d (.int .i64 ((n : Nat) : Int)), .d (.int .i64 B), .d (.bool pl0), .d (.int .i64 P0), .d (.str OW)], .d (.int .i64 0)], [], [], []⟩, ⟨.agg [.d (.int .i64 ((W : Nat) : Int)), .d (.int .i64 ((H : Nat) : Int)), .d (.int .i64 ((n : Nat) : Int)), .d (.int .i64 B), .d (.bool pl0), .d (.int .i64 P0), .d (.str OW)], [], [], []⟩, ⟨.d (.int .i64 0), [], [], []⟩, ⟨.ptr 9 0, [(9, some ⟨31, 7, [.d (.int .i64 0), .d (.int .i64 0), .d (.int .i64 0), .d (.int .i64 0), .d (.bool false), .d (.int .i64 0), .d (.str (⟨#[]⟩))]⟩)], [9], []⟩, ⟨.tup [], [(9, some ⟨31, 7, [.d (.int .i64 ((W : Nat) : Int)), .d (.int .i64 ((H : Nat) : Int)), .d (.int .i64 ((n : Nat) : Int)), .d (.int .i64 B), .d (.bool pl0), .d (.int .i64 P0), .d (.str OW)]⟩)], [], [9]⟩, ⟨.d (.int .i64 0), [], [], []⟩] (by kernel_rfl) (by kernel_rfl) (fun id _ => hG id) ?_ ?_
  · exact okY rfl (LT_load 7 rfl rfl rfl (List.Mem.head _) Try.underlying31 inf31 (by simp) (.inl ⟨rfl, rfl, rfl⟩)) <| okY rfl (LT_load 7 rfl rfl rfl (List.Mem.head _) Try.underlying31 inf31 (by simp) (.inl ⟨rfl, rfl, rfl⟩)) <| okY rfl (LT_move rfl rfl) <| okY rfl (LT_move rfl rfl) <| okY rfl (LT_call [.agg [.d (.int .i64 ((W : Nat) : Int)), .d (.int .i64 ((H : Nat) : Int)), .d (.int .i64 ((n : Nat) : Int)), .d (.int .i64 B), .d (.bool pl0), .d (.int .i64 P0), .d (.str O)], .agg [.d (.int .i64 ((pw : Nat) : Int)), .d (.int .i64 ((ph : Nat) : Int)), .d (.int .i64 ((n : Nat) : Int)), .d (.int .i64 B), .d (.bool plo), .d (.int .i64 Po), .d (.str OP)], .d (.int .i64 x), .d (.int .i64 y)] rfl rfl Try.call31 rfl ((pc_paste' hw).ct rfl)) <| okY rfl (LT_move rfl rfl) <| okY rfl (LT_extract rfl rfl rfl) <| okY rfl (LT_extract rfl rfl rfl) <| okY rfl (LT_alloc 9 rfl inf31 rfl 7 rfl (List.Mem.head _)) <| okY rfl (LT_store (ob := ⟨31, 7, [.d (.int .i64 0), .d (.int .i64 0), .d (.int .i64 0), .d (.int .i64 0), .d (.bool false), .d (.int .i64 0), .d (.str (⟨#[]⟩))]⟩) (x := .agg [.d (.int .i64 ((W : Nat) : Int)), .d (.int .i64 ((H : Nat) : Int)), .d (.int .i64 ((n : Nat) : Int)), .d (.int .i64 B), .d (.bool pl0), .d (.int .i64 P0), .d (.str OW)]) rfl rfl rfl (List.Mem.head _) inf31 rfl rfl rfl (by simp [X.cells]) _ rfl) <| okY rfl (LT_assign rfl rfl) <| okE
  change AW _ _ _ _ _ _
  refine aw_weak (weak_of [(8, .d (.int .i64 x)), (9, .d (.int .i64 y)), (17, .ptr 8 0), (18, .d (.int .i64 0)), (19, .ptr 9 0), (20, .d (.int .i64 0))] [(8, some ⟨31, 7, [.d (.int .i64 ((pw : Nat) : Int)), .d (.int .i64 ((ph : Nat) : Int)), .d (.int .i64 ((n : Nat) : Int)), .d (.int .i64 B), .d (.bool plo), .d (.int .i64 Po), .d (.str OP)]⟩), (9, some ⟨31, 7, [.d (.int .i64 ((W : Nat) : Int)), .d (.int .i64 ((H : Nat) : Int)), .d (.int .i64 ((n : Nat) : Int)), .d (.int .i64 B), .d (.bool pl0), .d (.int .i64 P0), .d (.str OW)]⟩)] [8, 9] (sE rfl (sE rfl (sE rfl (sE rfl (sE rfl (sE rfl sE0)))))) (sH rfl (sH rfl sH0)) (by kernel_rfl)) ?_
  refine aw_seq ?_
  refine aw_region_seq [⟨.agg [.d (.int .i64 ((W : Nat) : Int)), .d (.int .i64 ((H : Nat) : Int)), .d (.int .i64 ((n : Nat) : Int)), .d (.int .i64 B), .d (.bool pl0), .d (.int .i64 P0), .d (.str OW)], [], [], [9]⟩, ⟨.d (.int .i64 x), [], [], []⟩, ⟨.d (.int .i64 y), [], [], []⟩, ⟨.ptr 8 0, [], [], []⟩, ⟨.d (.int .i64 ((pw : Nat) : Int)), [], [], [8]⟩, ⟨.ptr 8 1, [], [], []⟩, ⟨.d (.int .i64 ((ph : Nat) : Int)), [], [], [8]⟩, ⟨.tup [.agg [.d (.int .i64 ((pw : Nat) : Int)), .d (.int .i64 ((ph : Nat) : Int)), .d (.int .i64 ((n : Nat) : Int)), .d (.int .i64 B), .d (.bool pl0), .d (.int .i64 P0), .d (.str OU)], .d (.int .i64 0)], [], [], []⟩, ⟨.tup [.agg [.d (.int .i64 ((pw : Nat) : Int)), .d (.int .i64 ((ph : Nat) : Int)), .d (.int .i64 ((n : Nat) : Int)), .d (.int .i64 B), .d (.bool pl0), .d (.int .i64 P0), .d (.str OU)], .d (.int .i64 0)], [], [], []⟩, ⟨.agg [.d (.int .i64 ((pw : Nat) : Int)), .d (.int .i64 ((ph : Nat) : Int)), .d (.int .i64 ((n : Nat) : Int)), .d (.int .i64 B), .d (.bool pl0), .d (.int .i64 P0), .d (.str OU)], [], [], []⟩, ⟨.d (.int .i64 0), [], [], []⟩, ⟨.ptr 10 0, [(10, some ⟨31, 7, [.d (.int .i64 0), .d (.int .i64 0), .d (.int .i64 0), .d (.int .i64 0), .d (.bool false), .d (.int .i64 0), .d (.str (⟨#[]⟩))]⟩)], [10], []⟩, ⟨.tup [], [(10, some ⟨31, 7, [.d (.int .i64 ((pw : Nat) : Int)), .d (.int .i64 ((ph : Nat) : Int)), .d (.int .i64 ((n : Nat) : Int)), .d (.int .i64 B), .d (.bool pl0), .d (.int .i64 P0), .d (.str OU)]⟩)], [], [10]⟩, ⟨.d (.int .i64 0), [], [], []⟩] (by kernel_rfl) (by kernel_rfl) (fun id _ => hG id) ?_ ?_
  · exact okY rfl (LT_load 7 rfl rfl rfl (List.Mem.head _) Try.underlying31 inf31 (by simp) (.inl ⟨rfl, rfl, rfl⟩)) <| okY rfl (LT_move rfl rfl) <| okY rfl (LT_move rfl rfl) <| okY rfl (LT_fieldAddr rfl rfl Try.underlying31 rfl inf3 (by decide) _ rfl) <| okY rfl (LT_load 1 rfl rfl rfl (List.Mem.head _) Try.underlying3 inf3 (by simp) (.inr ⟨rfl, rfl, rfl⟩)) <| okY rfl (LT_fieldAddr rfl rfl Try.underlying31 rfl inf3 (by decide) _ rfl) <| okY rfl (LT_load 1 rfl rfl rfl (List.Mem.head _) Try.underlying3 inf3 (by simp) (.inr ⟨rfl, rfl, rfl⟩)) <| okY rfl (LT_call [.agg [.d (.int .i64 ((W : Nat) : Int)), .d (.int .i64 ((H : Nat) : Int)), .d (.int .i64 ((n : Nat) : Int)), .d (.int .i64 B), .d (.bool pl0), .d (.int .i64 P0), .d (.str OW)], .d (.int .i64 x), .d (.int .i64 y), .d (.int .i64 ((pw : Nat) : Int)), .d (.int .i64 ((ph : Nat) : Int))] rfl rfl Try.call28 rfl ((pc_cut' ho).ct rfl)) <| okY rfl (LT_move rfl rfl) <| okY rfl (LT_extract rfl rfl rfl) <| okY rfl (LT_extract rfl rfl rfl) <| okY rfl (LT_alloc 10 rfl inf31 rfl 7 rfl (List.Mem.head _)) <| okY rfl (LT_store (ob := ⟨31, 7, [.d (.int .i64 0), .d (.int .i64 0), .d (.int .i64 0), .d (.int .i64 0), .d (.bool false), .d (.int .i64 0), .d (.str (⟨#[]⟩))]⟩) (x := .agg [.d (.int .i64 ((pw : Nat) : Int)), .d (.int .i64 ((ph : Nat) : Int)), .d (.int .i64 ((n : Nat) : Int)), .d (.int .i64 B), .d (.bool pl0), .d (.int .i64 P0), .d (.str OU)]) rfl rfl rfl (List.Mem.head _) inf31 rfl rfl rfl (by simp [X.cells]) _ rfl) <| okY rfl (LT_assign rfl rfl) <| okE
  change AW _ _ _ _ _ _
  refine aw_weak (weak_of [(17, .ptr 8 0), (18, .d (.int .i64 0)), (19, .ptr 9 0), (20, .d (.int .i64 0)), (21, .ptr 10 0), (22, .d (.int .i64 0))] [(8, some ⟨31, 7, [.d (.int .i64 ((pw : Nat) : Int)), .d (.int .i64 ((ph : Nat) : Int)), .d (.int .i64 ((n : Nat) : Int)), .d (.int .i64 B), .d (.bool plo), .d (.int .i64 Po), .d (.str OP)]⟩), (9, some ⟨31, 7, [.d (.int .i64 ((W : Nat) : Int)), .d (.int .i64 ((H : Nat) : Int)), .d (.int .i64 ((n : Nat) : Int)), .d (.int .i64 B), .d (.bool pl0), .d (.int .i64 P0), .d (.str OW)]⟩), (10, some ⟨31, 7, [.d (.int .i64 ((pw : Nat) : Int)), .d (.int .i64 ((ph : Nat) : Int)), .d (.int .i64 ((n : Nat) : Int)), .d (.int .i64 B), .d (.bool pl0), .d (.int .i64 P0), .d (.str OU)]⟩)] [8, 9, 10] (sE rfl (sE rfl (sE rfl (sE rfl (sE rfl (sE rfl sE0)))))) (sH rfl (sH rfl (sH rfl sH0))) (by kernel_rfl)) ?_
  refine aw_seq ?_
  refine aw_region_seq [⟨.d (.int .i64 0), [], [], []⟩, ⟨.d (.bool true), [], [], []⟩, ⟨.d (.bool true), [], [], []⟩, ⟨.d (.int .i64 0), [], [], []⟩, ⟨.d (.bool true), [], [], []⟩, ⟨.d (.bool true), [], [], []⟩, ⟨.d (.bool true), [], [], []⟩, ⟨.d (.int .i64 0), [], [], []⟩, ⟨.d (.bool true), [], [], []⟩, ⟨.d (.bool true), [], [], []⟩, ⟨.d (.bool true), [], [], []⟩, ⟨.agg [.d (.int .i64 ((pw : Nat) : Int)), .d (.int .i64 ((ph : Nat) : Int)), .d (.int .i64 ((n : Nat) : Int)), .d (.int .i64 B), .d (.bool pl0), .d (.int .i64 P0), .d (.str OU)], [], [], [10]⟩, ⟨.agg [.d (.int .i64 ((pw : Nat) : Int)), .d (.int .i64 ((ph : Nat) : Int)), .d (.int .i64 ((n : Nat) : Int)), .d (.int .i64 B), .d (.bool plo), .d (.int .i64 Po), .d (.str OP)], [], [], [8]⟩, ⟨.d (.bool true), [], [], []⟩, ⟨.d (.bool true), [], [], []⟩, ⟨.d (.bool true), [], [], []⟩, ⟨.agg [.d (.int .i64 ((W : Nat) : Int)), .d (.int .i64 ((H : Nat) : Int)), .d (.int .i64 ((n : Nat) : Int)), .d (.int .i64 B), .d (.bool pl0), .d (.int .i64 P0), .d (.str OW)], [], [], [9]⟩, ⟨.d (.int .i64 0), [], [], []⟩, ⟨.d (.bool true), [], [], []⟩, ⟨.d (.bool true), [], [], []⟩, ⟨.d (.bool true), [], [], []⟩] (by kernel_rfl) (by kernel_rfl) (fun id _ => hG id) ?_ ?_
  · exact okY rfl (LT_move rfl rfl) <| okY rfl (LT_cmp rfl rfl rfl rfl rfl) <| okY rfl (LT_move rfl rfl) <| okY rfl (LT_move rfl rfl) <| okY rfl (LT_cmp rfl rfl rfl rfl rfl) <| okY rfl (LT_pick rfl rfl (fun _ _ _ _ _ h => h) (fun h => by cases h)) <| okY rfl (LT_move rfl rfl) <| okY rfl (LT_move rfl rfl) <| okY rfl (LT_cmp rfl rfl rfl rfl rfl) <| okY rfl (LT_pick rfl rfl (fun _ _ _ _ _ h => h) (fun h => by cases h)) <| okY rfl (LT_move rfl rfl) <| okY rfl (LT_load 7 rfl rfl rfl (List.Mem.head _) Try.underlying31 inf31 (by simp) (.inl ⟨rfl, rfl, rfl⟩)) <| okY rfl (LT_load 7 rfl rfl rfl (List.Mem.head _) Try.underlying31 inf31 (by simp) (.inl ⟨rfl, rfl, rfl⟩)) <| okY rfl (LT_call [.agg [.d (.int .i64 ((pw : Nat) : Int)), .d (.int .i64 ((ph : Nat) : Int)), .d (.int .i64 ((n : Nat) : Int)), .d (.int .i64 B), .d (.bool pl0), .d (.int .i64 P0), .d (.str OU)], .agg [.d (.int .i64 ((pw : Nat) : Int)), .d (.int .i64 ((ph : Nat) : Int)), .d (.int .i64 ((n : Nat) : Int)), .d (.int .i64 B), .d (.bool plo), .d (.int .i64 Po), .d (.str OP)]] rfl rfl Try.call26 rfl ((alike_pc pw ph n _ _ _ _ _ _ _ _ (row0 ⟨⟨((pw : Nat) : Int), ((ph : Nat) : Int), ((n : Nat) : Int), B, plo, Po⟩, OP⟩ n) (by omega) (by omega) (by omega) (row0_len _ n) hg1 hg2).ct rfl)) <| okY rfl (LT_pick rfl rfl (fun _ _ _ _ _ h => h) (fun h => by cases h)) <| okY rfl (LT_move rfl rfl) <| okY rfl (LT_load 7 rfl rfl rfl (List.Mem.head _) Try.underlying31 inf31 (by simp) (.inl ⟨rfl, rfl, rfl⟩)) <| okY rfl (LT_call [.agg [.d (.int .i64 ((W : Nat) : Int)), .d (.int .i64 ((H : Nat) : Int)), .d (.int .i64 ((n : Nat) : Int)), .d (.int .i64 B), .d (.bool pl0), .d (.int .i64 P0), .d (.str OW)]] rfl rfl Try.call15 rfl ((pc_check' hck).ct rfl)) <| okY rfl (LT_cmp rfl rfl rfl rfl rfl) <| okY rfl (LT_pick rfl rfl (fun _ _ _ _ _ h => h) (fun h => by cases h)) <| okY rfl (LT_assign rfl rfl) <| okE
  change AW _ _ _ _ _ _
  refine aw_weak (weak_of [(6, .d (.bool true))] [] [] (sE rfl sE0) sH0 (by kernel_rfl)) ?_
  refine aw_ret ?_
  refine fin1 (x := .d (.bool true)) (.inl rfl) Try.results8 rfl ?_
  exact rfl

end Go.Proofs.Ytphfbjeaklpddaa
