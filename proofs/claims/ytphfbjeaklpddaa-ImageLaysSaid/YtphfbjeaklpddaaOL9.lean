/-
  Joined texts: Layer 42: two images with the same pixels are alike. · Layer 42, the plain law: what the functions answer for images by functions. · Layer 42, the plain law: what becomes of samples when the layout turns. · Layer 42: changed images. · Layer 42, the rows: arguments opened. · A law by its contract; a draft's image, in numbers. · Layer 42: three images.
-/
import Derived.Test.YtphfbjeaklpddaaOL8
import Derived.Test.YtphfbjeaklpddaaOL6
import Derived.Test.YtphfbjeaklpddaaOL2
import Derived.Test.YtphfbjeaklpddaaOL7
set_option linter.unusedSimpArgs false
set_option linter.unusedVariables false

/- Layer 42: two images with the same pixels are alike. -/
namespace Go.Proofs.Ytphfbjeaklpddaa
open Go.RowKit


set_option maxRecDepth 100000 in
set_option maxHeartbeats 2000000 in
theorem alike_pc (Wn Hn Cn : Nat) (B1 B2 P1 P2 : Int) (pl1 pl2 : Bool) (O1 O2 : ByteArray) (l : Nat → Nat → List Int) (hW : Wn ≤ 64) (hH : Hn ≤ 64) (hC : Cn ≤ 4) (hl : ∀ i j, (l i j).length = Cn)
    (hg1 : ∀ i j : Nat, i < Wn → j < Hn → getR ⟨⟨Wn, Hn, Cn, B1, pl1, P1⟩, O1⟩ i j = (l i j, 0)) (hg2 : ∀ i j : Nat, i < Wn → j < Hn → getR ⟨⟨Wn, Hn, Cn, B2, pl2, P2⟩, O2⟩ i j = (l i j, 0)) : PC Try.prog 26 [.agg [.d (.int .i64 ((Wn : Nat) : Int)), .d (.int .i64 ((Hn : Nat) : Int)), .d (.int .i64 ((Cn : Nat) : Int)), .d (.int .i64 B1), .d (.bool pl1), .d (.int .i64 P1), .d (.str O1)], .agg [.d (.int .i64 ((Wn : Nat) : Int)), .d (.int .i64 ((Hn : Nat) : Int)), .d (.int .i64 ((Cn : Nat) : Int)), .d (.int .i64 B2), .d (.bool pl2), .d (.int .i64 P2), .d (.str O2)]] (.d (.bool true)) := by
  refine PC_of (fn := Try.f26) Try.func26 rfl (by simp [Try.ntmps26]) (by kernel_rfl) fun G hG => ?_
  rw [Try.ntmps26]
  refine aw_seq ?_
  refine aw_region_seq [⟨.ptr 1 0, [(1, some ⟨31, 7, [.d (.int .i64 ((Wn : Nat) : Int)), .d (.int .i64 ((Hn : Nat) : Int)), .d (.int .i64 ((Cn : Nat) : Int)), .d (.int .i64 B1), .d (.bool pl1), .d (.int .i64 P1), .d (.str O1)]⟩)], [1], []⟩, ⟨.ptr 2 0, [(2, some ⟨31, 7, [.d (.int .i64 ((Wn : Nat) : Int)), .d (.int .i64 ((Hn : Nat) : Int)), .d (.int .i64 ((Cn : Nat) : Int)), .d (.int .i64 B2), .d (.bool pl2), .d (.int .i64 P2), .d (.str O2)]⟩)], [2], []⟩, ⟨.d (.bool false), [], [], []⟩] (by kernel_rfl) (by kernel_rfl) (fun id _ => hG id) ?_ ?_
  · exact okY rfl (LT_box (x := .agg [.d (.int .i64 ((Wn : Nat) : Int)), .d (.int .i64 ((Hn : Nat) : Int)), .d (.int .i64 ((Cn : Nat) : Int)), .d (.int .i64 B1), .d (.bool pl1), .d (.int .i64 P1), .d (.str O1)]) 1 rfl rfl rfl 7 rfl (List.Mem.head _)) <| okY rfl (LT_box (x := .agg [.d (.int .i64 ((Wn : Nat) : Int)), .d (.int .i64 ((Hn : Nat) : Int)), .d (.int .i64 ((Cn : Nat) : Int)), .d (.int .i64 B2), .d (.bool pl2), .d (.int .i64 P2), .d (.str O2)]) 2 rfl rfl rfl 7 rfl (List.Mem.head _)) <| okY rfl (LT_assign rfl rfl) <| okE
  change AW _ _ _ _ _ _
  refine aw_weak (weak_of [(2, .ptr 1 0), (3, .ptr 2 0)] [(1, some ⟨31, 7, [.d (.int .i64 ((Wn : Nat) : Int)), .d (.int .i64 ((Hn : Nat) : Int)), .d (.int .i64 ((Cn : Nat) : Int)), .d (.int .i64 B1), .d (.bool pl1), .d (.int .i64 P1), .d (.str O1)]⟩), (2, some ⟨31, 7, [.d (.int .i64 ((Wn : Nat) : Int)), .d (.int .i64 ((Hn : Nat) : Int)), .d (.int .i64 ((Cn : Nat) : Int)), .d (.int .i64 B2), .d (.bool pl2), .d (.int .i64 P2), .d (.str O2)]⟩)] [1, 2] (sE rfl (sE rfl sE0)) (sH rfl (sH rfl sH0)) (by kernel_rfl)) ?_
  refine aw_seq ?_
  refine aw_seq ?_
  refine aw_region_seq [⟨.ptr 1 0, [], [], []⟩, ⟨.d (.int .i64 ((Wn : Nat) : Int)), [], [], [1]⟩, ⟨.ptr 2 0, [], [], []⟩, ⟨.d (.int .i64 ((Wn : Nat) : Int)), [], [], [2]⟩, ⟨.d (.bool false), [], [], []⟩, ⟨.d (.bool false), [], [], []⟩, ⟨.ptr 1 1, [], [], []⟩, ⟨.d (.int .i64 ((Hn : Nat) : Int)), [], [], [1]⟩, ⟨.ptr 2 1, [], [], []⟩, ⟨.d (.int .i64 ((Hn : Nat) : Int)), [], [], [2]⟩, ⟨.d (.bool false), [], [], []⟩, ⟨.d (.bool false), [], [], []⟩, ⟨.d (.bool false), [], [], []⟩, ⟨.ptr 1 2, [], [], []⟩, ⟨.d (.int .i64 ((Cn : Nat) : Int)), [], [], [1]⟩, ⟨.ptr 2 2, [], [], []⟩, ⟨.d (.int .i64 ((Cn : Nat) : Int)), [], [], [2]⟩, ⟨.d (.bool false), [], [], []⟩, ⟨.d (.bool false), [], [], []⟩] (by kernel_rfl) (by kernel_rfl) (fun id _ => hG id) ?_ ?_
  · exact okY rfl (LT_fieldAddr rfl rfl Try.underlying31 rfl inf3 (by decide) _ rfl) <| okY rfl (LT_load 1 rfl rfl rfl (List.Mem.head _) Try.underlying3 inf3 (by simp) (.inr ⟨rfl, rfl, rfl⟩)) <| okY rfl (LT_fieldAddr rfl rfl Try.underlying31 rfl inf3 (by decide) _ rfl) <| okY rfl (LT_load 1 rfl rfl rfl (List.Mem.head _) Try.underlying3 inf3 (by simp) (.inr ⟨rfl, rfl, rfl⟩)) <| okY rfl (LT_cmp rfl rfl rfl rfl (by simp [cmpI])) <| okY rfl (LT_move rfl rfl) <| okY rfl (LT_fieldAddr rfl rfl Try.underlying31 rfl inf3 (by decide) _ rfl) <| okY rfl (LT_load 1 rfl rfl rfl (List.Mem.head _) Try.underlying3 inf3 (by simp) (.inr ⟨rfl, rfl, rfl⟩)) <| okY rfl (LT_fieldAddr rfl rfl Try.underlying31 rfl inf3 (by decide) _ rfl) <| okY rfl (LT_load 1 rfl rfl rfl (List.Mem.head _) Try.underlying3 inf3 (by simp) (.inr ⟨rfl, rfl, rfl⟩)) <| okY rfl (LT_cmp rfl rfl rfl rfl (by simp [cmpI])) <| okY rfl (LT_pick rfl rfl (fun h => by cases h) (fun _ _ _ _ _ h => h)) <| okY rfl (LT_move rfl rfl) <| okY rfl (LT_fieldAddr rfl rfl Try.underlying31 rfl inf3 (by decide) _ rfl) <| okY rfl (LT_load 1 rfl rfl rfl (List.Mem.head _) Try.underlying3 inf3 (by simp) (.inr ⟨rfl, rfl, rfl⟩)) <| okY rfl (LT_fieldAddr rfl rfl Try.underlying31 rfl inf3 (by decide) _ rfl) <| okY rfl (LT_load 1 rfl rfl rfl (List.Mem.head _) Try.underlying3 inf3 (by simp) (.inr ⟨rfl, rfl, rfl⟩)) <| okY rfl (LT_cmp rfl rfl rfl rfl (by simp [cmpI])) <| okY rfl (LT_pick rfl rfl (fun h => by cases h) (fun _ _ _ _ _ h => h)) <| okE
  change AW _ _ _ _ _ _
  refine aw_weak (weak_of [(2, .ptr 1 0), (3, .ptr 2 0), (29, .d (.bool false))] [(1, some ⟨31, 7, [.d (.int .i64 ((Wn : Nat) : Int)), .d (.int .i64 ((Hn : Nat) : Int)), .d (.int .i64 ((Cn : Nat) : Int)), .d (.int .i64 B1), .d (.bool pl1), .d (.int .i64 P1), .d (.str O1)]⟩), (2, some ⟨31, 7, [.d (.int .i64 ((Wn : Nat) : Int)), .d (.int .i64 ((Hn : Nat) : Int)), .d (.int .i64 ((Cn : Nat) : Int)), .d (.int .i64 B2), .d (.bool pl2), .d (.int .i64 P2), .d (.str O2)]⟩)] [1, 2] (sE rfl (sE rfl (sE rfl sE0))) (sH rfl (sH rfl sH0)) (by kernel_rfl)) ?_
  refine aw_condF rfl ?_
  refine aw_skip ?_
  change AW _ _ _ _ _ _
  refine aw_weak (weak_of [(2, .ptr 1 0), (3, .ptr 2 0)] [(1, some ⟨31, 7, [.d (.int .i64 ((Wn : Nat) : Int)), .d (.int .i64 ((Hn : Nat) : Int)), .d (.int .i64 ((Cn : Nat) : Int)), .d (.int .i64 B1), .d (.bool pl1), .d (.int .i64 P1), .d (.str O1)]⟩), (2, some ⟨31, 7, [.d (.int .i64 ((Wn : Nat) : Int)), .d (.int .i64 ((Hn : Nat) : Int)), .d (.int .i64 ((Cn : Nat) : Int)), .d (.int .i64 B2), .d (.bool pl2), .d (.int .i64 P2), .d (.str O2)]⟩)] [1, 2] (sE rfl (sE rfl sE0)) (sH rfl (sH rfl sH0)) (by kernel_rfl)) ?_
  refine aw_seq ?_
  refine aw_seq ?_
  refine aw_region_seq [⟨.ptr 1 1, [], [], []⟩, ⟨.d (.int .i64 ((Hn : Nat) : Int)), [], [], [1]⟩, ⟨.d (.int .i64 0), [], [], []⟩] (by kernel_rfl) (by kernel_rfl) (fun id _ => hG id) ?_ ?_
  · exact okY rfl (LT_fieldAddr rfl rfl Try.underlying31 rfl inf3 (by decide) _ rfl) <| okY rfl (LT_load 1 rfl rfl rfl (List.Mem.head _) Try.underlying3 inf3 (by simp) (.inr ⟨rfl, rfl, rfl⟩)) <| okY rfl (LT_move rfl rfl) <| okE
  change AW _ _ _ _ _ _
  refine aw_weak (weak_of [(2, .ptr 1 0), (3, .ptr 2 0), (31, .d (.int .i64 ((Hn : Nat) : Int))), (32, .d (.int .i64 0))] [(1, some ⟨31, 7, [.d (.int .i64 ((Wn : Nat) : Int)), .d (.int .i64 ((Hn : Nat) : Int)), .d (.int .i64 ((Cn : Nat) : Int)), .d (.int .i64 B1), .d (.bool pl1), .d (.int .i64 P1), .d (.str O1)]⟩), (2, some ⟨31, 7, [.d (.int .i64 ((Wn : Nat) : Int)), .d (.int .i64 ((Hn : Nat) : Int)), .d (.int .i64 ((Cn : Nat) : Int)), .d (.int .i64 B2), .d (.bool pl2), .d (.int .i64 P2), .d (.str O2)]⟩)] [1, 2] (sE rfl (sE rfl (sE rfl (sE rfl sE0)))) (sH rfl (sH rfl sH0)) (by kernel_rfl)) ?_
  refine aw_block ?_
  refine aw_loopJ (fun j => ⟨[(2, .ptr 1 0), (3, .ptr 2 0), (31, .d (.int .i64 ((Hn : Nat) : Int))), (32, .d (.int .i64 ((j : Nat) : Int)))], [(1, some ⟨31, 7, [.d (.int .i64 ((Wn : Nat) : Int)), .d (.int .i64 ((Hn : Nat) : Int)), .d (.int .i64 ((Cn : Nat) : Int)), .d (.int .i64 B1), .d (.bool pl1), .d (.int .i64 P1), .d (.str O1)]⟩), (2, some ⟨31, 7, [.d (.int .i64 ((Wn : Nat) : Int)), .d (.int .i64 ((Hn : Nat) : Int)), .d (.int .i64 ((Cn : Nat) : Int)), .d (.int .i64 B2), .d (.bool pl2), .d (.int .i64 P2), .d (.str O2)]⟩)], [1, 2]⟩) (fun j => j ≤ Hn) (fun j => Hn - j) 0 (Nat.zero_le _) ?_ ?_
  · exact weak_of _ _ _ (sE rfl (sE rfl (sE rfl (sE rfl sE0)))) (sH rfl (sH rfl sH0)) (by kernel_rfl)
  intro j hJ0
  refine aw_seq ?_
  refine aw_region_seq [⟨.d (.bool (decide ((((j : Nat) : Int) : Int) < ((Hn : Nat) : Int)))), [], [], []⟩] (by kernel_rfl) (by kernel_rfl) (fun id _ => hG id) ?_ ?_
  · exact okY rfl (LT_cmp rfl rfl rfl rfl rfl) <| okE
  change AW _ _ _ _ _ _
  refine aw_weak (weak_of [(2, .ptr 1 0), (3, .ptr 2 0), (31, .d (.int .i64 ((Hn : Nat) : Int))), (32, .d (.int .i64 ((j : Nat) : Int))), (33, .d (.bool (decide ((((j : Nat) : Int) : Int) < ((Hn : Nat) : Int)))))] [(1, some ⟨31, 7, [.d (.int .i64 ((Wn : Nat) : Int)), .d (.int .i64 ((Hn : Nat) : Int)), .d (.int .i64 ((Cn : Nat) : Int)), .d (.int .i64 B1), .d (.bool pl1), .d (.int .i64 P1), .d (.str O1)]⟩), (2, some ⟨31, 7, [.d (.int .i64 ((Wn : Nat) : Int)), .d (.int .i64 ((Hn : Nat) : Int)), .d (.int .i64 ((Cn : Nat) : Int)), .d (.int .i64 B2), .d (.bool pl2), .d (.int .i64 P2), .d (.str O2)]⟩)] [1, 2] (sE rfl (sE rfl (sE rfl (sE rfl (sE rfl sE0))))) (sH rfl (sH rfl sH0)) (by kernel_rfl)) ?_
  refine aw_seq ?_
  refine aw_cond (decide ((((j : Nat) : Int) : Int) < ((Hn : Nat) : Int))) rfl (fun hb1 => ?_) (fun hb1 => ?_)
  ·
    replace hb1 := of_decide_eq_true hb1
    refine aw_skip ?_
    change AW _ _ _ _ _ _
    refine aw_weak (weak_of [(2, .ptr 1 0), (3, .ptr 2 0), (31, .d (.int .i64 ((Hn : Nat) : Int))), (32, .d (.int .i64 ((j : Nat) : Int)))] [(1, some ⟨31, 7, [.d (.int .i64 ((Wn : Nat) : Int)), .d (.int .i64 ((Hn : Nat) : Int)), .d (.int .i64 ((Cn : Nat) : Int)), .d (.int .i64 B1), .d (.bool pl1), .d (.int .i64 P1), .d (.str O1)]⟩), (2, some ⟨31, 7, [.d (.int .i64 ((Wn : Nat) : Int)), .d (.int .i64 ((Hn : Nat) : Int)), .d (.int .i64 ((Cn : Nat) : Int)), .d (.int .i64 B2), .d (.bool pl2), .d (.int .i64 P2), .d (.str O2)]⟩)] [1, 2] (sE rfl (sE rfl (sE rfl (sE rfl sE0)))) (sH rfl (sH rfl sH0)) (by kernel_rfl)) ?_
    refine aw_seq ?_
    refine aw_block ?_
    refine aw_seq ?_
    refine aw_region_seq [⟨.d (.int .i64 ((j : Nat) : Int)), [], [], []⟩, ⟨.d (.int .i64 ((j : Nat) : Int)), [], [], []⟩] (by kernel_rfl) (by kernel_rfl) (fun id _ => hG id) ?_ ?_
    · exact okY rfl (LT_move rfl rfl) <| okY rfl (LT_assign rfl rfl) <| okE
    change AW _ _ _ _ _ _
    refine aw_weak (weak_of [(2, .ptr 1 0), (3, .ptr 2 0), (31, .d (.int .i64 ((Hn : Nat) : Int))), (32, .d (.int .i64 ((j : Nat) : Int))), (5, .d (.int .i64 ((j : Nat) : Int)))] [(1, some ⟨31, 7, [.d (.int .i64 ((Wn : Nat) : Int)), .d (.int .i64 ((Hn : Nat) : Int)), .d (.int .i64 ((Cn : Nat) : Int)), .d (.int .i64 B1), .d (.bool pl1), .d (.int .i64 P1), .d (.str O1)]⟩), (2, some ⟨31, 7, [.d (.int .i64 ((Wn : Nat) : Int)), .d (.int .i64 ((Hn : Nat) : Int)), .d (.int .i64 ((Cn : Nat) : Int)), .d (.int .i64 B2), .d (.bool pl2), .d (.int .i64 P2), .d (.str O2)]⟩)] [1, 2] (sE rfl (sE rfl (sE rfl (sE rfl (sE rfl sE0))))) (sH rfl (sH rfl sH0)) (by kernel_rfl)) ?_
    refine aw_seq ?_
    refine aw_region_seq [⟨.ptr 1 0, [], [], []⟩, ⟨.d (.int .i64 ((Wn : Nat) : Int)), [], [], [1]⟩, ⟨.d (.int .i64 0), [], [], []⟩] (by kernel_rfl) (by kernel_rfl) (fun id _ => hG id) ?_ ?_
    · exact okY rfl (LT_fieldAddr rfl rfl Try.underlying31 rfl inf3 (by decide) _ rfl) <| okY rfl (LT_load 1 rfl rfl rfl (List.Mem.head _) Try.underlying3 inf3 (by simp) (.inr ⟨rfl, rfl, rfl⟩)) <| okY rfl (LT_move rfl rfl) <| okE
    change AW _ _ _ _ _ _
    refine aw_weak (weak_of [(2, .ptr 1 0), (3, .ptr 2 0), (31, .d (.int .i64 ((Hn : Nat) : Int))), (32, .d (.int .i64 ((j : Nat) : Int))), (5, .d (.int .i64 ((j : Nat) : Int))), (36, .d (.int .i64 ((Wn : Nat) : Int))), (37, .d (.int .i64 0))] [(1, some ⟨31, 7, [.d (.int .i64 ((Wn : Nat) : Int)), .d (.int .i64 ((Hn : Nat) : Int)), .d (.int .i64 ((Cn : Nat) : Int)), .d (.int .i64 B1), .d (.bool pl1), .d (.int .i64 P1), .d (.str O1)]⟩), (2, some ⟨31, 7, [.d (.int .i64 ((Wn : Nat) : Int)), .d (.int .i64 ((Hn : Nat) : Int)), .d (.int .i64 ((Cn : Nat) : Int)), .d (.int .i64 B2), .d (.bool pl2), .d (.int .i64 P2), .d (.str O2)]⟩)] [1, 2] (sE rfl (sE rfl (sE rfl (sE rfl (sE rfl (sE rfl (sE rfl sE0))))))) (sH rfl (sH rfl sH0)) (by kernel_rfl)) ?_
    refine aw_block ?_
    refine aw_loopJ (fun i => ⟨[(2, .ptr 1 0), (3, .ptr 2 0), (31, .d (.int .i64 ((Hn : Nat) : Int))), (32, .d (.int .i64 ((j : Nat) : Int))), (5, .d (.int .i64 ((j : Nat) : Int))), (36, .d (.int .i64 ((Wn : Nat) : Int))), (37, .d (.int .i64 ((i : Nat) : Int)))], [(1, some ⟨31, 7, [.d (.int .i64 ((Wn : Nat) : Int)), .d (.int .i64 ((Hn : Nat) : Int)), .d (.int .i64 ((Cn : Nat) : Int)), .d (.int .i64 B1), .d (.bool pl1), .d (.int .i64 P1), .d (.str O1)]⟩), (2, some ⟨31, 7, [.d (.int .i64 ((Wn : Nat) : Int)), .d (.int .i64 ((Hn : Nat) : Int)), .d (.int .i64 ((Cn : Nat) : Int)), .d (.int .i64 B2), .d (.bool pl2), .d (.int .i64 P2), .d (.str O2)]⟩)], [1, 2]⟩) (fun i => i ≤ Wn) (fun i => Wn - i) 0 (Nat.zero_le _) ?_ ?_
    · exact weak_of _ _ _ (sE rfl (sE rfl (sE rfl (sE rfl (sE rfl (sE rfl (sE rfl sE0))))))) (sH rfl (sH rfl sH0)) (by kernel_rfl)
    intro i hJ1
    refine aw_seq ?_
    refine aw_region_seq [⟨.d (.bool (decide ((((i : Nat) : Int) : Int) < ((Wn : Nat) : Int)))), [], [], []⟩] (by kernel_rfl) (by kernel_rfl) (fun id _ => hG id) ?_ ?_
    · exact okY rfl (LT_cmp rfl rfl rfl rfl rfl) <| okE
    change AW _ _ _ _ _ _
    refine aw_weak (weak_of [(2, .ptr 1 0), (3, .ptr 2 0), (31, .d (.int .i64 ((Hn : Nat) : Int))), (32, .d (.int .i64 ((j : Nat) : Int))), (5, .d (.int .i64 ((j : Nat) : Int))), (36, .d (.int .i64 ((Wn : Nat) : Int))), (37, .d (.int .i64 ((i : Nat) : Int))), (38, .d (.bool (decide ((((i : Nat) : Int) : Int) < ((Wn : Nat) : Int)))))] [(1, some ⟨31, 7, [.d (.int .i64 ((Wn : Nat) : Int)), .d (.int .i64 ((Hn : Nat) : Int)), .d (.int .i64 ((Cn : Nat) : Int)), .d (.int .i64 B1), .d (.bool pl1), .d (.int .i64 P1), .d (.str O1)]⟩), (2, some ⟨31, 7, [.d (.int .i64 ((Wn : Nat) : Int)), .d (.int .i64 ((Hn : Nat) : Int)), .d (.int .i64 ((Cn : Nat) : Int)), .d (.int .i64 B2), .d (.bool pl2), .d (.int .i64 P2), .d (.str O2)]⟩)] [1, 2] (sE rfl (sE rfl (sE rfl (sE rfl (sE rfl (sE rfl (sE rfl (sE rfl sE0)))))))) (sH rfl (sH rfl sH0)) (by kernel_rfl)) ?_
    refine aw_seq ?_
    refine aw_cond (decide ((((i : Nat) : Int) : Int) < ((Wn : Nat) : Int))) rfl (fun hb2 => ?_) (fun hb2 => ?_)
    ·
      replace hb2 := of_decide_eq_true hb2
      refine aw_skip ?_
      change AW _ _ _ _ _ _
      refine aw_weak (weak_of [(2, .ptr 1 0), (3, .ptr 2 0), (31, .d (.int .i64 ((Hn : Nat) : Int))), (32, .d (.int .i64 ((j : Nat) : Int))), (5, .d (.int .i64 ((j : Nat) : Int))), (36, .d (.int .i64 ((Wn : Nat) : Int))), (37, .d (.int .i64 ((i : Nat) : Int)))] [(1, some ⟨31, 7, [.d (.int .i64 ((Wn : Nat) : Int)), .d (.int .i64 ((Hn : Nat) : Int)), .d (.int .i64 ((Cn : Nat) : Int)), .d (.int .i64 B1), .d (.bool pl1), .d (.int .i64 P1), .d (.str O1)]⟩), (2, some ⟨31, 7, [.d (.int .i64 ((Wn : Nat) : Int)), .d (.int .i64 ((Hn : Nat) : Int)), .d (.int .i64 ((Cn : Nat) : Int)), .d (.int .i64 B2), .d (.bool pl2), .d (.int .i64 P2), .d (.str O2)]⟩)] [1, 2] (sE rfl (sE rfl (sE rfl (sE rfl (sE rfl (sE rfl (sE rfl sE0))))))) (sH rfl (sH rfl sH0)) (by kernel_rfl)) ?_
      refine aw_seq ?_
      refine aw_block ?_
      refine aw_seq ?_
      refine aw_region_seq [⟨.d (.int .i64 ((i : Nat) : Int)), [], [], []⟩, ⟨.d (.int .i64 ((i : Nat) : Int)), [], [], []⟩] (by kernel_rfl) (by kernel_rfl) (fun id _ => hG id) ?_ ?_
      · exact okY rfl (LT_move rfl rfl) <| okY rfl (LT_assign rfl rfl) <| okE
      change AW _ _ _ _ _ _
      refine aw_weak (weak_of [(2, .ptr 1 0), (3, .ptr 2 0), (31, .d (.int .i64 ((Hn : Nat) : Int))), (32, .d (.int .i64 ((j : Nat) : Int))), (5, .d (.int .i64 ((j : Nat) : Int))), (36, .d (.int .i64 ((Wn : Nat) : Int))), (37, .d (.int .i64 ((i : Nat) : Int))), (6, .d (.int .i64 ((i : Nat) : Int)))] [(1, some ⟨31, 7, [.d (.int .i64 ((Wn : Nat) : Int)), .d (.int .i64 ((Hn : Nat) : Int)), .d (.int .i64 ((Cn : Nat) : Int)), .d (.int .i64 B1), .d (.bool pl1), .d (.int .i64 P1), .d (.str O1)]⟩), (2, some ⟨31, 7, [.d (.int .i64 ((Wn : Nat) : Int)), .d (.int .i64 ((Hn : Nat) : Int)), .d (.int .i64 ((Cn : Nat) : Int)), .d (.int .i64 B2), .d (.bool pl2), .d (.int .i64 P2), .d (.str O2)]⟩)] [1, 2] (sE rfl (sE rfl (sE rfl (sE rfl (sE rfl (sE rfl (sE rfl (sE rfl sE0)))))))) (sH rfl (sH rfl sH0)) (by kernel_rfl)) ?_
      refine aw_seq ?_
      refine aw_region_seq [⟨.agg [.d (.int .i64 ((Wn : Nat) : Int)), .d (.int .i64 ((Hn : Nat) : Int)), .d (.int .i64 ((Cn : Nat) : Int)), .d (.int .i64 B1), .d (.bool pl1), .d (.int .i64 P1), .d (.str O1)], [], [], [1]⟩, ⟨.d (.int .i64 ((i : Nat) : Int)), [], [], []⟩, ⟨.d (.int .i64 ((j : Nat) : Int)), [], [], []⟩, ⟨.tup [.d (.slw Cn 1 (intsD (l i j))), .d (.int .i64 0)], [], [], []⟩, ⟨.tup [.d (.slw Cn 1 (intsD (l i j))), .d (.int .i64 0)], [], [], []⟩, ⟨.d (.slw Cn 1 (intsD (l i j))), [], [], []⟩, ⟨.d (.int .i64 0), [], [], []⟩, ⟨.d (.slw Cn 1 (intsD (l i j))), [], [], []⟩, ⟨.d (.int .i64 0), [], [], []⟩] (by kernel_rfl) (by kernel_rfl) (fun id _ => hG id) ?_ ?_
      · exact okY rfl (LT_load 7 rfl rfl rfl (List.Mem.head _) Try.underlying31 inf31 (by simp) (.inl ⟨rfl, rfl, rfl⟩)) <| okY rfl (LT_move rfl rfl) <| okY rfl (LT_move rfl rfl) <| okY rfl (LT_call [.agg [.d (.int .i64 ((Wn : Nat) : Int)), .d (.int .i64 ((Hn : Nat) : Int)), .d (.int .i64 ((Cn : Nat) : Int)), .d (.int .i64 B1), .d (.bool pl1), .d (.int .i64 P1), .d (.str O1)], .d (.int .i64 ((i : Nat) : Int)), .d (.int .i64 ((j : Nat) : Int))] rfl rfl Try.call19 rfl ((pc_get' (hg1 i j (by omega) (by omega)) (hl i j)).ct rfl)) <| okY rfl (LT_move rfl rfl) <| okY rfl (LT_extract rfl rfl rfl) <| okY rfl (LT_extract rfl rfl rfl) <| okY rfl (LT_assign rfl rfl) <| okY rfl (LT_assign rfl rfl) <| okE
      change AW _ _ _ _ _ _
      refine aw_weak (weak_of [(2, .ptr 1 0), (3, .ptr 2 0), (31, .d (.int .i64 ((Hn : Nat) : Int))), (32, .d (.int .i64 ((j : Nat) : Int))), (5, .d (.int .i64 ((j : Nat) : Int))), (36, .d (.int .i64 ((Wn : Nat) : Int))), (37, .d (.int .i64 ((i : Nat) : Int))), (6, .d (.int .i64 ((i : Nat) : Int))), (7, .d (.slw Cn 1 (intsD (l i j)))), (8, .d (.int .i64 0))] [(1, some ⟨31, 7, [.d (.int .i64 ((Wn : Nat) : Int)), .d (.int .i64 ((Hn : Nat) : Int)), .d (.int .i64 ((Cn : Nat) : Int)), .d (.int .i64 B1), .d (.bool pl1), .d (.int .i64 P1), .d (.str O1)]⟩), (2, some ⟨31, 7, [.d (.int .i64 ((Wn : Nat) : Int)), .d (.int .i64 ((Hn : Nat) : Int)), .d (.int .i64 ((Cn : Nat) : Int)), .d (.int .i64 B2), .d (.bool pl2), .d (.int .i64 P2), .d (.str O2)]⟩)] [1, 2] (sE rfl (sE rfl (sE rfl (sE rfl (sE rfl (sE rfl (sE rfl (sE rfl (sE rfl (sE rfl sE0)))))))))) (sH rfl (sH rfl sH0)) (by kernel_rfl)) ?_
      refine aw_seq ?_
      refine aw_region_seq [⟨.agg [.d (.int .i64 ((Wn : Nat) : Int)), .d (.int .i64 ((Hn : Nat) : Int)), .d (.int .i64 ((Cn : Nat) : Int)), .d (.int .i64 B2), .d (.bool pl2), .d (.int .i64 P2), .d (.str O2)], [], [], [2]⟩, ⟨.d (.int .i64 ((i : Nat) : Int)), [], [], []⟩, ⟨.d (.int .i64 ((j : Nat) : Int)), [], [], []⟩, ⟨.tup [.d (.slw Cn 1 (intsD (l i j))), .d (.int .i64 0)], [], [], []⟩, ⟨.tup [.d (.slw Cn 1 (intsD (l i j))), .d (.int .i64 0)], [], [], []⟩, ⟨.d (.slw Cn 1 (intsD (l i j))), [], [], []⟩, ⟨.d (.int .i64 0), [], [], []⟩, ⟨.d (.slw Cn 1 (intsD (l i j))), [], [], []⟩, ⟨.d (.int .i64 0), [], [], []⟩] (by kernel_rfl) (by kernel_rfl) (fun id _ => hG id) ?_ ?_
      · exact okY rfl (LT_load 7 rfl rfl rfl (List.Mem.head _) Try.underlying31 inf31 (by simp) (.inl ⟨rfl, rfl, rfl⟩)) <| okY rfl (LT_move rfl rfl) <| okY rfl (LT_move rfl rfl) <| okY rfl (LT_call [.agg [.d (.int .i64 ((Wn : Nat) : Int)), .d (.int .i64 ((Hn : Nat) : Int)), .d (.int .i64 ((Cn : Nat) : Int)), .d (.int .i64 B2), .d (.bool pl2), .d (.int .i64 P2), .d (.str O2)], .d (.int .i64 ((i : Nat) : Int)), .d (.int .i64 ((j : Nat) : Int))] rfl rfl Try.call19 rfl ((pc_get' (hg2 i j (by omega) (by omega)) (hl i j)).ct rfl)) <| okY rfl (LT_move rfl rfl) <| okY rfl (LT_extract rfl rfl rfl) <| okY rfl (LT_extract rfl rfl rfl) <| okY rfl (LT_assign rfl rfl) <| okY rfl (LT_assign rfl rfl) <| okE
      change AW _ _ _ _ _ _
      refine aw_weak (weak_of [(2, .ptr 1 0), (3, .ptr 2 0), (31, .d (.int .i64 ((Hn : Nat) : Int))), (32, .d (.int .i64 ((j : Nat) : Int))), (5, .d (.int .i64 ((j : Nat) : Int))), (36, .d (.int .i64 ((Wn : Nat) : Int))), (37, .d (.int .i64 ((i : Nat) : Int))), (7, .d (.slw Cn 1 (intsD (l i j)))), (8, .d (.int .i64 0)), (9, .d (.slw Cn 1 (intsD (l i j)))), (10, .d (.int .i64 0))] [(1, some ⟨31, 7, [.d (.int .i64 ((Wn : Nat) : Int)), .d (.int .i64 ((Hn : Nat) : Int)), .d (.int .i64 ((Cn : Nat) : Int)), .d (.int .i64 B1), .d (.bool pl1), .d (.int .i64 P1), .d (.str O1)]⟩), (2, some ⟨31, 7, [.d (.int .i64 ((Wn : Nat) : Int)), .d (.int .i64 ((Hn : Nat) : Int)), .d (.int .i64 ((Cn : Nat) : Int)), .d (.int .i64 B2), .d (.bool pl2), .d (.int .i64 P2), .d (.str O2)]⟩)] [1, 2] (sE rfl (sE rfl (sE rfl (sE rfl (sE rfl (sE rfl (sE rfl (sE rfl (sE rfl (sE rfl (sE rfl sE0))))))))))) (sH rfl (sH rfl sH0)) (by kernel_rfl)) ?_
      refine aw_seq ?_
      refine aw_region_seq [⟨.d (.int .i64 0), [], [], []⟩, ⟨.d (.bool false), [], [], []⟩, ⟨.d (.bool false), [], [], []⟩, ⟨.d (.int .i64 0), [], [], []⟩, ⟨.d (.bool false), [], [], []⟩, ⟨.d (.bool false), [], [], []⟩, ⟨.d (.bool false), [], [], []⟩, ⟨.d (.slw Cn 1 (intsD (l i j))), [], [], []⟩, ⟨.d (.slw Cn 1 (intsD (l i j))), [], [], []⟩, ⟨.d (.bool true), [], [], []⟩, ⟨.d (.bool false), [], [], []⟩, ⟨.d (.bool false), [], [], []⟩] (by kernel_rfl) (by kernel_rfl) (fun id _ => hG id) ?_ ?_
      · exact okY rfl (LT_move rfl rfl) <| okY rfl (LT_cmp rfl rfl rfl rfl rfl) <| okY rfl (LT_move rfl rfl) <| okY rfl (LT_move rfl rfl) <| okY rfl (LT_cmp rfl rfl rfl rfl rfl) <| okY rfl (LT_pick rfl rfl (fun h => by cases h) (fun _ _ _ _ _ h => h)) <| okY rfl (LT_move rfl rfl) <| okY rfl (LT_move rfl rfl) <| okY rfl (LT_move rfl rfl) <| okY rfl (LT_call [.d (.slw Cn 1 (intsD (l i j))), .d (.slw Cn 1 (intsD (l i j)))] rfl rfl Try.call21 rfl ((pc_equal' (hl _ _) (hl _ _) (by omega) (by omega) (by simp)).ct rfl)) <| okY rfl (LT_not rfl rfl rfl) <| okY rfl (LT_pick rfl rfl (fun h => by cases h) (fun _ _ _ _ _ h => h)) <| okE
      change AW _ _ _ _ _ _
      refine aw_weak (weak_of [(2, .ptr 1 0), (3, .ptr 2 0), (31, .d (.int .i64 ((Hn : Nat) : Int))), (32, .d (.int .i64 ((j : Nat) : Int))), (5, .d (.int .i64 ((j : Nat) : Int))), (36, .d (.int .i64 ((Wn : Nat) : Int))), (37, .d (.int .i64 ((i : Nat) : Int))), (65, .d (.bool false))] [(1, some ⟨31, 7, [.d (.int .i64 ((Wn : Nat) : Int)), .d (.int .i64 ((Hn : Nat) : Int)), .d (.int .i64 ((Cn : Nat) : Int)), .d (.int .i64 B1), .d (.bool pl1), .d (.int .i64 P1), .d (.str O1)]⟩), (2, some ⟨31, 7, [.d (.int .i64 ((Wn : Nat) : Int)), .d (.int .i64 ((Hn : Nat) : Int)), .d (.int .i64 ((Cn : Nat) : Int)), .d (.int .i64 B2), .d (.bool pl2), .d (.int .i64 P2), .d (.str O2)]⟩)] [1, 2] (sE rfl (sE rfl (sE rfl (sE rfl (sE rfl (sE rfl (sE rfl (sE rfl sE0)))))))) (sH rfl (sH rfl sH0)) (by kernel_rfl)) ?_
      refine aw_condF rfl ?_
      refine aw_skip ?_
      change AW _ _ _ _ _ _
      refine aw_weak (weak_of [(2, .ptr 1 0), (3, .ptr 2 0), (31, .d (.int .i64 ((Hn : Nat) : Int))), (32, .d (.int .i64 ((j : Nat) : Int))), (5, .d (.int .i64 ((j : Nat) : Int))), (36, .d (.int .i64 ((Wn : Nat) : Int))), (37, .d (.int .i64 ((i : Nat) : Int)))] [(1, some ⟨31, 7, [.d (.int .i64 ((Wn : Nat) : Int)), .d (.int .i64 ((Hn : Nat) : Int)), .d (.int .i64 ((Cn : Nat) : Int)), .d (.int .i64 B1), .d (.bool pl1), .d (.int .i64 P1), .d (.str O1)]⟩), (2, some ⟨31, 7, [.d (.int .i64 ((Wn : Nat) : Int)), .d (.int .i64 ((Hn : Nat) : Int)), .d (.int .i64 ((Cn : Nat) : Int)), .d (.int .i64 B2), .d (.bool pl2), .d (.int .i64 P2), .d (.str O2)]⟩)] [1, 2] (sE rfl (sE rfl (sE rfl (sE rfl (sE rfl (sE rfl (sE rfl sE0))))))) (sH rfl (sH rfl sH0)) (by kernel_rfl)) ?_
      refine aw_region_seq [⟨.d (.int .i64 (((i : Nat) : Int) + 1)), [], [], []⟩, ⟨.d (.int .i64 (((i : Nat) : Int) + 1)), [], [], []⟩] (by kernel_rfl) (by kernel_rfl) (fun id _ => hG id) ?_ ?_
      · exact okY rfl (LT_add rfl rfl rfl (wi64 (by omega) (by omega))) <| okY rfl (LT_move rfl rfl) <| okE
      exact ⟨(i + 1), by omega, by omega, weak_of _ _ _ (sE rfl (sE rfl (sE rfl (sE rfl (sE rfl (sE rfl (sE rfl sE0))))))) (sH rfl (sH rfl sH0)) (by kernel_rfl)⟩
    ·
      replace hb2 := of_decide_eq_false hb2
      refine aw_exit ?_
      change AW _ _ _ _ _ _
      refine aw_weak (weak_of [(2, .ptr 1 0), (3, .ptr 2 0), (31, .d (.int .i64 ((Hn : Nat) : Int))), (32, .d (.int .i64 ((j : Nat) : Int)))] [(1, some ⟨31, 7, [.d (.int .i64 ((Wn : Nat) : Int)), .d (.int .i64 ((Hn : Nat) : Int)), .d (.int .i64 ((Cn : Nat) : Int)), .d (.int .i64 B1), .d (.bool pl1), .d (.int .i64 P1), .d (.str O1)]⟩), (2, some ⟨31, 7, [.d (.int .i64 ((Wn : Nat) : Int)), .d (.int .i64 ((Hn : Nat) : Int)), .d (.int .i64 ((Cn : Nat) : Int)), .d (.int .i64 B2), .d (.bool pl2), .d (.int .i64 P2), .d (.str O2)]⟩)] [1, 2] (sE rfl (sE rfl (sE rfl (sE rfl sE0)))) (sH rfl (sH rfl sH0)) (by kernel_rfl)) ?_
      refine aw_region_seq [⟨.d (.int .i64 (((j : Nat) : Int) + 1)), [], [], []⟩, ⟨.d (.int .i64 (((j : Nat) : Int) + 1)), [], [], []⟩] (by kernel_rfl) (by kernel_rfl) (fun id _ => hG id) ?_ ?_
      · exact okY rfl (LT_add rfl rfl rfl (wi64 (by omega) (by omega))) <| okY rfl (LT_move rfl rfl) <| okE
      exact ⟨(j + 1), by omega, by omega, weak_of _ _ _ (sE rfl (sE rfl (sE rfl (sE rfl sE0)))) (sH rfl (sH rfl sH0)) (by kernel_rfl)⟩
  ·
    replace hb1 := of_decide_eq_false hb1
    refine aw_exit ?_
    change AW _ _ _ _ _ _
    refine aw_weak (weak_of [] [] [] sE0 sH0 (by kernel_rfl)) ?_
    refine aw_seq ?_
    refine aw_region_seq [⟨.d (.bool true), [], [], []⟩] (by kernel_rfl) (by kernel_rfl) (fun id _ => hG id) ?_ ?_
    · exact okY rfl (LT_assign rfl rfl) <| okE
    change AW _ _ _ _ _ _
    refine aw_weak (weak_of [(4, .d (.bool true))] [] [] (sE rfl sE0) sH0 (by kernel_rfl)) ?_
    refine aw_ret ?_
    refine fin1 (x := .d (.bool true)) (.inl rfl) Try.results26 rfl ?_
    exact rfl

end Go.Proofs.Ytphfbjeaklpddaa

/- Layer 42, the plain law: what the functions answer for images by functions. -/
namespace Go.Proofs.Ytphfbjeaklpddaa
open Go.RowKit

theorem thereB_yes (L : Lay) (x y : Int) (x0 : 0 ≤ x) (x1 : x < L.W) (y0 : 0 ≤ y) (y1 : y < L.H) : thereB L x y = true := (thereB_iff L x y).2 ⟨⟨x0, x1⟩, ⟨y0, y1⟩⟩

theorem getR_ok (I : Im) (hv : I.vB = true) (x y : Int) (x0 : 0 ≤ x) (x1 : x < I.L.W) (y0 : 0 ≤ y) (y1 : y < I.L.H) : getR I x y = ((List.range I.L.C.toNat).map fun c => I.L.fn I.O x y (c : Nat), 0) := by
  unfold getR
  rw [if_pos hv, if_pos (thereB_yes I.L x y x0 x1 y0 y1)]

theorem getR_imF (L : Lay) (hok : L.ok) (f : Int → Int → Int → Int) (hf : Fits L f) (x y : Int) (x0 : 0 ≤ x) (x1 : x < L.W) (y0 : 0 ≤ y) (y1 : y < L.H) : getR (imF L f) x y = ((List.range L.C.toNat).map fun c => f x y (c : Nat), 0) := by
  rw [getR_ok (imF L f) (imF_valid L hok f) x y x0 x1 y0 y1]
  congr 1
  refine List.map_congr_left fun c hc => ?_
  have h : c < L.C.toNat := List.mem_range.1 hc
  exact imF_fn L hok f hf ⟨⟨x0, x1⟩, ⟨y0, y1⟩, ⟨by omega, by show ((c : Nat) : Int) < L.C; omega⟩⟩

theorem setR_ok (I : Im) (hv : I.vB = true) (x y : Int) (xs : List Int) (x0 : 0 ≤ x) (x1 : x < I.L.W) (y0 : 0 ≤ y) (y1 : y < I.L.H) (hl : (xs.length : Int) = I.L.C) (hr : ∀ v ∈ xs, 0 ≤ v ∧ v < if I.L.B = 8 then 256 else 65536) :
    setR I x y xs = (imF I.L (putF (I.L.fn I.O) x y xs xs.length), 0) := by
  have h : rngB I.L xs = true := by
    unfold rngB
    rw [List.all_eq_true]
    intro v hm
    rw [inB_iff]
    obtain ⟨a, b⟩ := hr v hm
    refine ⟨a, ?_⟩
    split at b
    · rename_i h8; rw [if_pos h8]; omega
    · rename_i h8; rw [if_neg h8]; omega
  unfold setR
  rw [if_pos hv, thereB_yes I.L x y x0 x1 y0 y1, h, hl]
  simp only [decide_true, Bool.and_self, if_true]
  rfl

theorem chkR_ok {I : Im} (hv : I.vB = true) : chkR I = 0 := by unfold chkR; rw [if_pos hv]

end Go.Proofs.Ytphfbjeaklpddaa

/- Layer 42, the plain law: what becomes of samples when the layout turns. -/
namespace Go.Proofs.Ytphfbjeaklpddaa
open Go.RowKit

def Im.fn (I : Im) : Int → Int → Int → Int := I.L.fn I.O

theorem b816 {I : Im} (hv : I.vB = true) : I.L.B = 8 ∨ I.L.B = 16 := (Im.ok hv).b

theorem chgT_same (B v : Int) : chgT B B v = v := by unfold chgT; rw [if_neg (by omega), if_neg (by omega)]

theorem fn_bd (I : Im) (hv : I.vB = true) (x y c : Int) : 0 ≤ I.fn x y c ∧ I.fn x y c < if I.L.B = 8 then 256 else 65536 := I.L.smp_bd (Im.ok hv) (octAt I.O) (octAt_range I.O) x y c

theorem chgT_bd {B b v : Int} (hB : B = 8 ∨ B = 16) (hb : b = 8 ∨ b = 16) (h0 : 0 ≤ v) (h1 : v < if B = 8 then 256 else 65536) : 0 ≤ chgT B b v ∧ chgT B b v < if b = 8 then 256 else 65536 := by
  unfold chgT
  rcases hB with rfl | rfl <;> rcases hb with rfl | rfl <;> simp at h1 ⊢ <;> omega

theorem shp_keep (I : Im) (hv : I.vB = true) (bits : Int) (pl : Bool) (pad : Int) (hb : bits = 8 ∨ bits = 16) (hp : pad = 1 ∨ pad = 2 ∨ pad = 4 ∨ pad = 8) :
    ∃ S, shpR I bits pl pad = (S, 0) ∧ S.vB = true ∧ S.L = I.L.lay bits pl pad ∧ ∀ x y c, I.L.dom x y c → S.fn x y c = chgT I.L.B bits (I.fn x y c) := by
  have hok := Im.ok hv
  have hok' : (I.L.lay bits pl pad).ok := ⟨hok.w1, hok.w2, hok.h1, hok.h2, hok.c1, hok.c2, hb, hp, hok.s⟩
  have hs : shpB I.L.W I.L.H I.L.C bits pad = true := (shpB_iff _ _ _ _ _).2 hok'
  unfold shpR
  rw [if_pos hv]
  split
  · rename_i h
    simp only [Bool.and_eq_true, decide_eq_true_eq, beq_iff_eq] at h
    obtain ⟨rfl, rfl, rfl⟩ := h
    exact ⟨I, rfl, hv, rfl, fun x y c _ => (chgT_same _ _).symm⟩
  · try rw [if_pos hs]
    have e : I.lay bits pl pad = imF (I.L.lay bits pl pad) fun a b c => chgT I.L.B bits (I.L.fn I.O a b c) := rfl
    rw [e]
    refine ⟨_, rfl, imF_valid _ hok' _, rfl, fun x y c hd => ?_⟩
    exact imF_fn _ hok' _ (fun a b c _ => chgT_bd (b816 hv) hb (fn_bd I hv a b c).1 (fn_bd I hv a b c).2) hd

theorem chg_back {B b v : Int} (hB : B = 8 ∨ B = 16) (hb : b = B ∨ b = 16) (h0 : 0 ≤ v) (h1 : v < if B = 8 then 256 else 65536) : chgT b B (chgT B b v) = v := by
  rcases hb with rfl | rfl
  · rw [chgT_same, chgT_same]
  · rcases hB with rfl | rfl
    · unfold chgT
      simp
      simp at h1
      omega
    · rw [chgT_same, chgT_same]

/-- there and back again -/
theorem shp_back (I S : Im) (hv : I.vB = true) (bits : Int) (pl : Bool) (pad : Int) (hb : bits = I.L.B ∨ bits = 16) (hS : S.vB = true) (hL : S.L = I.L.lay bits pl pad) (hf : ∀ x y c, I.L.dom x y c → S.fn x y c = chgT I.L.B bits (I.fn x y c)) :
    shpR S I.L.B I.L.pl I.L.P = (I, 0) := by
  obtain ⟨R, h1, h2, h3, h4⟩ := shp_keep S hS I.L.B I.L.pl I.L.P (b816 hv) (Im.ok hv).p
  rw [h1]
  congr 1
  have hRL : R.L = I.L := by rw [h3, hL]; rfl
  refine Im.ext_fn R I hRL h2 hv fun x y c hd => ?_
  have hd' : I.L.dom x y c := by rw [← hRL]; exact hd
  have e := h4 x y c (by rw [hL]; exact hd')
  show R.fn x y c = I.fn x y c
  rw [e, hf x y c hd', hL]
  exact chg_back (b816 hv) hb (fn_bd I hv x y c).1 (fn_bd I hv x y c).2

def row0 (I : Im) (n : Nat) (i j : Nat) : List Int := (List.range n).map fun c => I.fn i j (c : Nat)
theorem row0_len (I : Im) (n i j : Nat) : (row0 I n i j).length = n := by simp [row0]

theorem get_row (I : Im) (hv : I.vB = true) (n : Nat) (hn : I.L.C = n) (i j : Nat) (hi : (i : Int) < I.L.W) (hj : (j : Int) < I.L.H) : getR I i j = (row0 I n i j, 0) := by
  rw [getR_ok I hv i j (by omega) hi (by omega) hj, hn]
  rfl

theorem row0_at (I : Im) (n i j k : Nat) (hk : k < n) : (row0 I n i j)[k]? = some (I.fn i j (k : Nat)) := by
  simp [row0, hk]

theorem far_bd {B v : Int} (hB : B = 8 ∨ B = 16) (h0 : 0 ≤ v) (h1 : v < if B = 8 then 256 else 65536) : -128 ≤ chgT B 16 v - chgT 8 16 (chgT B 8 v) ∧ chgT B 16 v - chgT 8 16 (chgT B 8 v) ≤ 128 := by
  rcases hB with rfl | rfl
  · simp only [chgT_same]
    unfold chgT
    simp
  · rw [chgT_same]
    unfold chgT
    simp
    simp at h1
    omega

/-- what ImageTurns meets, for an image m of these numbers -/
structure Turns (m S DP FL WI : Im) (pl : Bool) (p : Int) (n : Nat) (W H : Nat) : Prop where
  s : shpR m m.L.B pl p = (S, 0)
  sb : shpR S m.L.B m.L.pl m.L.P = (m, 0)
  sc : chkR S = 0
  d : shpR m 16 pl p = (DP, 0)
  db : shpR DP m.L.B m.L.pl m.L.P = (m, 0)
  f : shpR m 8 pl p = (FL, 0)
  fw : shpR FL 16 pl p = (WI, 0)
  sL : S.L = m.L.lay m.L.B pl p
  dL : DP.L = m.L.lay 16 pl p
  fL : FL.L = m.L.lay 8 pl p
  wL : WI.L = m.L.lay 16 pl p
  gm : ∀ i j : Nat, i < W → j < H → getR m i j = (row0 m n i j, 0)
  gs : ∀ i j : Nat, i < W → j < H → getR S i j = (row0 m n i j, 0)
  gd : ∀ i j : Nat, i < W → j < H → getR DP i j = (row0 DP n i j, 0)
  gw : ∀ i j : Nat, i < W → j < H → getR WI i j = (row0 WI n i j, 0)
  far : ∀ i j k : Nat, i < W → j < H → k < n → -128 ≤ DP.fn i j k - WI.fn i j k ∧ DP.fn i j k - WI.fn i j k ≤ 128
  bd : ∀ i j k : Nat, (0 ≤ DP.fn i j k ∧ DP.fn i j k < 65536) ∧ (0 ≤ WI.fn i j k ∧ WI.fn i j k < 65536)

theorem turns_plain (m : Im) (hv : m.vB = true) (pl : Bool) (p : Int) (hp : p = 1 ∨ p = 2 ∨ p = 4 ∨ p = 8) (W H n : Nat) (hW : m.L.W = W) (hH : m.L.H = H) (hn : m.L.C = n) : ∃ S DP FL WI, Turns m S DP FL WI pl p n W H := by
  obtain ⟨S, s1, s2, s3, s4⟩ := shp_keep m hv m.L.B pl p (b816 hv) hp
  obtain ⟨DP, d1, d2, d3, d4⟩ := shp_keep m hv 16 pl p (.inr rfl) hp
  obtain ⟨FL, f1, f2, f3, f4⟩ := shp_keep m hv 8 pl p (.inl rfl) hp
  obtain ⟨WI, w1, w2, w3, w4⟩ := shp_keep FL f2 16 pl p (.inr rfl) hp
  have hdom : ∀ i j k : Nat, i < W → j < H → k < n → m.L.dom i j k := fun i j k hi hj hk => ⟨⟨by omega, by omega⟩, ⟨by omega, by omega⟩, ⟨by omega, by omega⟩⟩
  have wL : WI.L = m.L.lay 16 pl p := by rw [w3, f3]; rfl
  refine ⟨S, DP, FL, WI, s1, shp_back m S hv m.L.B pl p (.inl rfl) s2 s3 s4, chkR_ok s2, d1, shp_back m DP hv 16 pl p (.inr rfl) d2 d3 d4, f1, w1, s3, d3, f3, wL, ?_, ?_, ?_, ?_, ?_, ?_⟩
  · exact fun i j hi hj => get_row m hv n hn i j (by omega) (by omega)
  · intro i j hi hj
    rw [get_row S s2 n (by rw [s3]; exact hn) i j (by rw [s3]; show (i : Int) < m.L.W; omega) (by rw [s3]; show (j : Int) < m.L.H; omega)]
    congr 1
    refine List.map_congr_left fun c hc => ?_
    rw [s4 _ _ _ (hdom i j c hi hj (List.mem_range.1 hc)), chgT_same]
  · exact fun i j hi hj => get_row DP d2 n (by rw [d3]; exact hn) i j (by rw [d3]; show (i : Int) < m.L.W; omega) (by rw [d3]; show (j : Int) < m.L.H; omega)
  · exact fun i j hi hj => get_row WI w2 n (by rw [wL]; exact hn) i j (by rw [wL]; show (i : Int) < m.L.W; omega) (by rw [wL]; show (j : Int) < m.L.H; omega)
  · intro i j k hi hj hk
    have hd := hdom i j k hi hj hk
    have e1 := d4 _ _ _ hd
    have e2 := f4 _ _ _ hd
    have e3 := w4 _ _ _ (show FL.L.dom i j k by rw [f3]; exact hd)
    rw [e1, e3, e2, f3]
    exact far_bd (b816 hv) (fn_bd m hv _ _ _).1 (fn_bd m hv _ _ _).2
  · intro i j k
    have h1 := fn_bd DP d2 i j k
    have h2 := fn_bd WI w2 i j k
    rw [d3] at h1
    rw [wL] at h2
    exact ⟨⟨h1.1, by have := h1.2; simpa [Lay.lay] using this⟩, ⟨h2.1, by have := h2.2; simpa [Lay.lay] using this⟩⟩

end Go.Proofs.Ytphfbjeaklpddaa

/- Layer 42: changed images. -/
namespace Go.Proofs.Ytphfbjeaklpddaa
open Go.RowKit

/-- a change of an image -/
structure Bn where
  wh : Int
  ap : Int
  oc : Int
  n : Int

/-- the changed image; i: the place -/
def Bn.of (b : Bn) (i : Int) (I : Im) : Im :=
  if ((b.wh % 9 : Int) == 0) = true then ⟨⟨b.n, I.L.H, I.L.C, I.L.B, I.L.pl, I.L.P⟩, I.O⟩
  else if ((b.wh % 9 : Int) == 1) = true then ⟨⟨I.L.W, b.n, I.L.C, I.L.B, I.L.pl, I.L.P⟩, I.O⟩
  else if ((b.wh % 9 : Int) == 2) = true then ⟨⟨I.L.W, I.L.H, b.n, I.L.B, I.L.pl, I.L.P⟩, I.O⟩
  else if ((b.wh % 9 : Int) == 3) = true then ⟨⟨I.L.W, I.L.H, I.L.C, b.n, I.L.pl, I.L.P⟩, I.O⟩
  else if ((b.wh % 9 : Int) == 4) = true then ⟨⟨I.L.W, I.L.H, I.L.C, I.L.B, I.L.pl, b.n⟩, I.O⟩
  else if ((b.wh % 9 : Int) == 5) = true then ⟨⟨I.L.W, I.L.H, I.L.C, I.L.B, !I.L.pl, I.L.P⟩, I.O⟩
  else if ((b.wh % 9 : Int) == 6) = true then ⟨I.L, I.O.extract 0 i.toNat⟩
  else if ((b.wh % 9 : Int) == 7) = true then ⟨I.L, I.O.extract 0 i.toNat ++ strD [b.oc] ++ I.O.extract i.toNat I.O.size⟩
  else if ((b.wh % 9 : Int) == 8) = true then (if i < (I.O.size : Int) then ⟨I.L, I.O.extract 0 i.toNat ++ strD [b.oc] ++ I.O.extract (i + 1).toNat I.O.size⟩ else I)
  else I

set_option maxRecDepth 100000 in
set_option maxHeartbeats 2000000 in
theorem of_core (wh ap oc n W H C B P i : Int) (pl : Bool) (O : ByteArray) (h0 : 0 ≤ wh ∧ wh < 256) (h1 : 0 ≤ ap ∧ ap < 256) (h2 : 0 ≤ oc ∧ oc < 256) (hO : O.size ≤ 1000000) (hi : ap % ((O.size : Int) + 1) = i) (i0 : 0 ≤ i) (i1 : i ≤ O.size) : PC Try.prog 36 [.agg [.d (.int .u8 wh), .d (.int .u8 ap), .d (.int .u8 oc), .d (.int .i64 n)], .agg [.d (.int .i64 W), .d (.int .i64 H), .d (.int .i64 C), .d (.int .i64 B), .d (.bool pl), .d (.int .i64 P), .d (.str O)]] (imX (Bn.of ⟨wh, ap, oc, n⟩ i ⟨⟨W, H, C, B, pl, P⟩, O⟩)) := by
  refine PC_of (fn := Try.f36) Try.func36 rfl (by simp [Try.ntmps36]) (by kernel_rfl) fun G hG => ?_
  rw [Try.ntmps36]
  have hos : (strD [oc]).size = 1 := by simp [strD, ByteArray.size]
  have HI := Lib.hid hi
  refine aw_seq ?_
  refine aw_region_seq [⟨.ptr 1 0, [(1, some ⟨26, 4, [.d (.int .u8 wh), .d (.int .u8 ap), .d (.int .u8 oc), .d (.int .i64 n)]⟩)], [1], []⟩, ⟨.ptr 2 0, [(2, some ⟨31, 7, [.d (.int .i64 W), .d (.int .i64 H), .d (.int .i64 C), .d (.int .i64 B), .d (.bool pl), .d (.int .i64 P), .d (.str O)]⟩)], [2], []⟩, ⟨.ptr 3 0, [(3, some ⟨31, 7, [.d (.int .i64 0), .d (.int .i64 0), .d (.int .i64 0), .d (.int .i64 0), .d (.bool false), .d (.int .i64 0), .d (.str (⟨#[]⟩))]⟩)], [3], []⟩] (by kernel_rfl) (by kernel_rfl) (fun id _ => hG id) ?_ ?_
  · exact okY rfl (LT_box (x := .agg [.d (.int .u8 wh), .d (.int .u8 ap), .d (.int .u8 oc), .d (.int .i64 n)]) 1 rfl rfl rfl 4 rfl (List.Mem.head _)) <| okY rfl (LT_box (x := .agg [.d (.int .i64 W), .d (.int .i64 H), .d (.int .i64 C), .d (.int .i64 B), .d (.bool pl), .d (.int .i64 P), .d (.str O)]) 2 rfl rfl rfl 7 rfl (List.Mem.head _)) <| okY rfl (LT_alloc 3 rfl inf31 rfl 7 rfl (List.Mem.head _)) <| okE
  change AW _ _ _ _ _ _
  refine aw_weak (weak_of [(2, .ptr 1 0), (3, .ptr 2 0), (4, .ptr 3 0)] [(1, some ⟨26, 4, [.d (.int .u8 wh), .d (.int .u8 ap), .d (.int .u8 oc), .d (.int .i64 n)]⟩), (2, some ⟨31, 7, [.d (.int .i64 W), .d (.int .i64 H), .d (.int .i64 C), .d (.int .i64 B), .d (.bool pl), .d (.int .i64 P), .d (.str O)]⟩), (3, some ⟨31, 7, [.d (.int .i64 0), .d (.int .i64 0), .d (.int .i64 0), .d (.int .i64 0), .d (.bool false), .d (.int .i64 0), .d (.str (⟨#[]⟩))]⟩)] [1, 2, 3] (sE rfl (sE rfl (sE rfl sE0))) (sH rfl (sH rfl (sH rfl sH0))) (by kernel_rfl)) ?_
  refine aw_seq ?_
  refine aw_region_seq [⟨.ptr 1 1, [], [], []⟩, ⟨.d (.int .u8 ap), [], [], [1]⟩, ⟨.d (.int .i64 ap), [], [], []⟩, ⟨.ptr 2 6, [], [], []⟩, ⟨.d (.str O), [], [], [2]⟩, ⟨.d (.int .i64 ((O.size : Nat) : Int)), [], [], []⟩, ⟨.d (.int .i64 (((O.size : Nat) : Int) + 1)), [], [], []⟩, ⟨.d (.int .i64 i), [], [], []⟩, ⟨.d (.int .i64 i), [], [], []⟩] (by kernel_rfl) (by kernel_rfl) (fun id _ => hG id) ?_ ?_
  · exact okY rfl (LT_fieldAddr rfl rfl Try.underlying26 rfl inf5 (by decide) _ rfl) <| okY rfl (LT_load 1 rfl rfl rfl (List.Mem.head _) Try.underlying5 inf5 (by simp) (.inr ⟨rfl, rfl, rfl⟩)) <| okY rfl (LT_conv rfl Try.underlying5 Try.underlying3 rfl (wi64 (by omega) (by omega))) <| okY rfl (LT_fieldAddr rfl rfl Try.underlying31 rfl inf9 (by decide) _ rfl) <| okY rfl (LT_load 1 rfl rfl rfl (List.Mem.head _) Try.underlying9 inf9 (by simp) (.inr ⟨rfl, rfl, rfl⟩)) <| okY rfl (LT_lenS rfl Try.underlying9 rfl) <| okY rfl (LT_add rfl rfl rfl (wi64 (by omega) (by omega))) <| okY rfl (LT_rem rfl rfl rfl (by omega) (hi ▸ Int.tmod_eq_emod_of_nonneg (by omega))) <| okY rfl (LT_assign rfl rfl) <| okE
  change AW _ _ _ _ _ _
  refine aw_weak (weak_of [(2, .ptr 1 0), (3, .ptr 2 0), (4, .ptr 3 0), (5, .d (.int .i64 i))] [(1, some ⟨26, 4, [.d (.int .u8 wh), .d (.int .u8 ap), .d (.int .u8 oc), .d (.int .i64 n)]⟩), (2, some ⟨31, 7, [.d (.int .i64 W), .d (.int .i64 H), .d (.int .i64 C), .d (.int .i64 B), .d (.bool pl), .d (.int .i64 P), .d (.str O)]⟩), (3, some ⟨31, 7, [.d (.int .i64 0), .d (.int .i64 0), .d (.int .i64 0), .d (.int .i64 0), .d (.bool false), .d (.int .i64 0), .d (.str (⟨#[]⟩))]⟩)] [1, 2, 3] (sE rfl (sE rfl (sE rfl (sE rfl sE0)))) (sH rfl (sH rfl (sH rfl sH0))) (by kernel_rfl)) ?_
  refine aw_seq ?_
  refine aw_region_seq [⟨.ptr 1 2, [], [], []⟩, ⟨.d (.int .u8 oc), [], [], [1]⟩, ⟨.d (.sl 1 1 ([oc].map (.int .u8))), [], [], []⟩, ⟨.d (.str (strD [oc])), [], [], []⟩, ⟨.d (.str (strD [oc])), [], [], []⟩] (by kernel_rfl) (by kernel_rfl) (fun id _ => hG id) ?_ ?_
  · exact okY rfl (LT_fieldAddr rfl rfl Try.underlying26 rfl inf5 (by decide) _ rfl) <| okY rfl (LT_load 1 rfl rfl rfl (List.Mem.head _) Try.underlying5 inf5 (by simp) (.inr ⟨rfl, rfl, rfl⟩)) <| okY rfl (LT_buildSliceD [.d (.int .u8 oc)] ([oc].map (.int .u8)) rfl Try.underlying70 inf5 rfl rfl 1 rfl (by decide) (by decide) rfl rfl (by decide) rfl (by kernel_rfl) rfl) <| okY rfl (LT_strOf [oc] _ rfl Try.underlying70 Try.underlying9 Try.underlying5 rfl rfl) <| okY rfl (LT_assign rfl rfl) <| okE
  change AW _ _ _ _ _ _
  refine aw_weak (weak_of [(2, .ptr 1 0), (3, .ptr 2 0), (4, .ptr 3 0), (5, .d (.int .i64 i)), (6, .d (.str (strD [oc])))] [(1, some ⟨26, 4, [.d (.int .u8 wh), .d (.int .u8 ap), .d (.int .u8 oc), .d (.int .i64 n)]⟩), (2, some ⟨31, 7, [.d (.int .i64 W), .d (.int .i64 H), .d (.int .i64 C), .d (.int .i64 B), .d (.bool pl), .d (.int .i64 P), .d (.str O)]⟩), (3, some ⟨31, 7, [.d (.int .i64 0), .d (.int .i64 0), .d (.int .i64 0), .d (.int .i64 0), .d (.bool false), .d (.int .i64 0), .d (.str (⟨#[]⟩))]⟩)] [1, 2, 3] (sE rfl (sE rfl (sE rfl (sE rfl (sE rfl sE0))))) (sH rfl (sH rfl (sH rfl sH0))) (by kernel_rfl)) ?_
  refine aw_seq ?_
  refine aw_seq ?_
  refine aw_region_seq [⟨.ptr 1 0, [], [], []⟩, ⟨.d (.int .u8 wh), [], [], [1]⟩, ⟨.d (.int .u8 (wh % 9)), [], [], []⟩] (by kernel_rfl) (by kernel_rfl) (fun id _ => hG id) ?_ ?_
  · exact okY rfl (LT_fieldAddr rfl rfl Try.underlying26 rfl inf5 (by decide) _ rfl) <| okY rfl (LT_load 1 rfl rfl rfl (List.Mem.head _) Try.underlying5 inf5 (by simp) (.inr ⟨rfl, rfl, rfl⟩)) <| okY rfl (LT_rem rfl rfl rfl (by omega) (Int.tmod_eq_emod_of_nonneg (by omega))) <| okE
  change AW _ _ _ _ _ _
  refine aw_weak (weak_of [(2, .ptr 1 0), (3, .ptr 2 0), (4, .ptr 3 0), (5, .d (.int .i64 i)), (6, .d (.str (strD [oc]))), (21, .d (.int .u8 (wh % 9)))] [(1, some ⟨26, 4, [.d (.int .u8 wh), .d (.int .u8 ap), .d (.int .u8 oc), .d (.int .i64 n)]⟩), (2, some ⟨31, 7, [.d (.int .i64 W), .d (.int .i64 H), .d (.int .i64 C), .d (.int .i64 B), .d (.bool pl), .d (.int .i64 P), .d (.str O)]⟩), (3, some ⟨31, 7, [.d (.int .i64 0), .d (.int .i64 0), .d (.int .i64 0), .d (.int .i64 0), .d (.bool false), .d (.int .i64 0), .d (.str (⟨#[]⟩))]⟩)] [1, 2, 3] (sE rfl (sE rfl (sE rfl (sE rfl (sE rfl (sE rfl sE0)))))) (sH rfl (sH rfl (sH rfl sH0))) (by kernel_rfl)) ?_
  refine aw_block ?_
  refine aw_seq ?_
  refine aw_region_seq [⟨.d (.bool (((wh % 9) : Int) == 0)), [], [], []⟩, ⟨.d (.bool (((wh % 9) : Int) == 0)), [], [], []⟩] (by kernel_rfl) (by kernel_rfl) (fun id _ => hG id) ?_ ?_
  · exact okY rfl (LT_cmp rfl rfl rfl rfl rfl) <| okY rfl (LT_assign rfl rfl) <| okE
  change AW _ _ _ _ _ _
  refine aw_weak (weak_of [(2, .ptr 1 0), (3, .ptr 2 0), (4, .ptr 3 0), (5, .d (.int .i64 i)), (6, .d (.str (strD [oc]))), (21, .d (.int .u8 (wh % 9))), (22, .d (.bool (((wh % 9) : Int) == 0)))] [(1, some ⟨26, 4, [.d (.int .u8 wh), .d (.int .u8 ap), .d (.int .u8 oc), .d (.int .i64 n)]⟩), (2, some ⟨31, 7, [.d (.int .i64 W), .d (.int .i64 H), .d (.int .i64 C), .d (.int .i64 B), .d (.bool pl), .d (.int .i64 P), .d (.str O)]⟩), (3, some ⟨31, 7, [.d (.int .i64 0), .d (.int .i64 0), .d (.int .i64 0), .d (.int .i64 0), .d (.bool false), .d (.int .i64 0), .d (.str (⟨#[]⟩))]⟩)] [1, 2, 3] (sE rfl (sE rfl (sE rfl (sE rfl (sE rfl (sE rfl (sE rfl sE0))))))) (sH rfl (sH rfl (sH rfl sH0))) (by kernel_rfl)) ?_
  refine aw_cond (((wh % 9) : Int) == 0) rfl (fun hb1 => ?_) (fun hb1 => ?_)
  ·
    refine aw_region_seq [⟨.ptr 1 3, [], [], []⟩, ⟨.d (.int .i64 n), [], [], [1]⟩, ⟨.ptr 2 0, [], [], []⟩, ⟨.tup [], [(2, some ⟨31, 7, [.d (.int .i64 n), .d (.int .i64 H), .d (.int .i64 C), .d (.int .i64 B), .d (.bool pl), .d (.int .i64 P), .d (.str O)]⟩)], [], [2]⟩] (by kernel_rfl) (by kernel_rfl) (fun id _ => hG id) ?_ ?_
    · exact okY rfl (LT_fieldAddr rfl rfl Try.underlying26 rfl inf3 (by decide) _ rfl) <| okY rfl (LT_load 1 rfl rfl rfl (List.Mem.head _) Try.underlying3 inf3 (by simp) (.inr ⟨rfl, rfl, rfl⟩)) <| okY rfl (LT_fieldAddr rfl rfl Try.underlying31 rfl inf3 (by decide) _ rfl) <| okY rfl (LT_store (ob := ⟨31, 7, [.d (.int .i64 W), .d (.int .i64 H), .d (.int .i64 C), .d (.int .i64 B), .d (.bool pl), .d (.int .i64 P), .d (.str O)]⟩) (x := .d (.int .i64 n)) rfl rfl rfl (List.Mem.head _) inf3 rfl rfl rfl (by simp [X.cells]) _ rfl) <| okE
    change AW _ _ _ _ _ _
    refine aw_weak (weak_of [(3, .ptr 2 0), (4, .ptr 3 0)] [(2, some ⟨31, 7, [.d (.int .i64 n), .d (.int .i64 H), .d (.int .i64 C), .d (.int .i64 B), .d (.bool pl), .d (.int .i64 P), .d (.str O)]⟩), (3, some ⟨31, 7, [.d (.int .i64 0), .d (.int .i64 0), .d (.int .i64 0), .d (.int .i64 0), .d (.bool false), .d (.int .i64 0), .d (.str (⟨#[]⟩))]⟩)] [2, 3] (sE rfl (sE rfl sE0)) (sH rfl (sH rfl sH0)) (by kernel_rfl)) ?_
    refine aw_seq ?_
    refine aw_region_seq [⟨.agg [.d (.int .i64 n), .d (.int .i64 H), .d (.int .i64 C), .d (.int .i64 B), .d (.bool pl), .d (.int .i64 P), .d (.str O)], [], [], [2]⟩, ⟨.tup [], [(3, some ⟨31, 7, [.d (.int .i64 n), .d (.int .i64 H), .d (.int .i64 C), .d (.int .i64 B), .d (.bool pl), .d (.int .i64 P), .d (.str O)]⟩)], [], [3]⟩] (by kernel_rfl) (by kernel_rfl) (fun id _ => hG id) ?_ ?_
    · exact okY rfl (LT_load 7 rfl rfl rfl (List.Mem.head _) Try.underlying31 inf31 (by simp) (.inl ⟨rfl, rfl, rfl⟩)) <| okY rfl (LT_store (ob := ⟨31, 7, [.d (.int .i64 0), .d (.int .i64 0), .d (.int .i64 0), .d (.int .i64 0), .d (.bool false), .d (.int .i64 0), .d (.str (⟨#[]⟩))]⟩) (x := .agg [.d (.int .i64 n), .d (.int .i64 H), .d (.int .i64 C), .d (.int .i64 B), .d (.bool pl), .d (.int .i64 P), .d (.str O)]) rfl rfl rfl (List.Mem.head _) inf31 rfl rfl rfl (by simp [X.cells]) _ rfl) <| okE
    change AW _ _ _ _ _ _
    refine aw_weak (weak_of [(4, .ptr 3 0)] [(3, some ⟨31, 7, [.d (.int .i64 n), .d (.int .i64 H), .d (.int .i64 C), .d (.int .i64 B), .d (.bool pl), .d (.int .i64 P), .d (.str O)]⟩)] [3] (sE rfl sE0) (sH rfl sH0) (by kernel_rfl)) ?_
    refine aw_ret ?_
    refine fin1 (x := .agg [.d (.int .i64 n), .d (.int .i64 H), .d (.int .i64 C), .d (.int .i64 B), .d (.bool pl), .d (.int .i64 P), .d (.str O)]) (.inl rfl) Try.results36 ⟨3, 0, _, _, _, 7, rfl, rfl, Try.underlying31, inf31, by simp, .inl ⟨rfl, rfl, rfl⟩⟩ ?_
    simp only [Bn.of, imX, hb1, Bool.false_eq_true, if_false, if_true, reduceIte]
  ·
    refine aw_seq ?_
    refine aw_region_seq [⟨.d (.bool (((wh % 9) : Int) == 1)), [], [], []⟩, ⟨.d (.bool (((wh % 9) : Int) == 1)), [], [], []⟩] (by kernel_rfl) (by kernel_rfl) (fun id _ => hG id) ?_ ?_
    · exact okY rfl (LT_cmp rfl rfl rfl rfl rfl) <| okY rfl (LT_assign rfl rfl) <| okE
    change AW _ _ _ _ _ _
    refine aw_weak (weak_of [(2, .ptr 1 0), (3, .ptr 2 0), (4, .ptr 3 0), (5, .d (.int .i64 i)), (6, .d (.str (strD [oc]))), (21, .d (.int .u8 (wh % 9))), (27, .d (.bool (((wh % 9) : Int) == 1)))] [(1, some ⟨26, 4, [.d (.int .u8 wh), .d (.int .u8 ap), .d (.int .u8 oc), .d (.int .i64 n)]⟩), (2, some ⟨31, 7, [.d (.int .i64 W), .d (.int .i64 H), .d (.int .i64 C), .d (.int .i64 B), .d (.bool pl), .d (.int .i64 P), .d (.str O)]⟩), (3, some ⟨31, 7, [.d (.int .i64 0), .d (.int .i64 0), .d (.int .i64 0), .d (.int .i64 0), .d (.bool false), .d (.int .i64 0), .d (.str (⟨#[]⟩))]⟩)] [1, 2, 3] (sE rfl (sE rfl (sE rfl (sE rfl (sE rfl (sE rfl (sE rfl sE0))))))) (sH rfl (sH rfl (sH rfl sH0))) (by kernel_rfl)) ?_
    refine aw_cond (((wh % 9) : Int) == 1) rfl (fun hb2 => ?_) (fun hb2 => ?_)
    ·
      refine aw_region_seq [⟨.ptr 1 3, [], [], []⟩, ⟨.d (.int .i64 n), [], [], [1]⟩, ⟨.ptr 2 1, [], [], []⟩, ⟨.tup [], [(2, some ⟨31, 7, [.d (.int .i64 W), .d (.int .i64 n), .d (.int .i64 C), .d (.int .i64 B), .d (.bool pl), .d (.int .i64 P), .d (.str O)]⟩)], [], [2]⟩] (by kernel_rfl) (by kernel_rfl) (fun id _ => hG id) ?_ ?_
      · exact okY rfl (LT_fieldAddr rfl rfl Try.underlying26 rfl inf3 (by decide) _ rfl) <| okY rfl (LT_load 1 rfl rfl rfl (List.Mem.head _) Try.underlying3 inf3 (by simp) (.inr ⟨rfl, rfl, rfl⟩)) <| okY rfl (LT_fieldAddr rfl rfl Try.underlying31 rfl inf3 (by decide) _ rfl) <| okY rfl (LT_store (ob := ⟨31, 7, [.d (.int .i64 W), .d (.int .i64 H), .d (.int .i64 C), .d (.int .i64 B), .d (.bool pl), .d (.int .i64 P), .d (.str O)]⟩) (x := .d (.int .i64 n)) rfl rfl rfl (List.Mem.head _) inf3 rfl rfl rfl (by simp [X.cells]) _ rfl) <| okE
      change AW _ _ _ _ _ _
      refine aw_weak (weak_of [(3, .ptr 2 0), (4, .ptr 3 0)] [(2, some ⟨31, 7, [.d (.int .i64 W), .d (.int .i64 n), .d (.int .i64 C), .d (.int .i64 B), .d (.bool pl), .d (.int .i64 P), .d (.str O)]⟩), (3, some ⟨31, 7, [.d (.int .i64 0), .d (.int .i64 0), .d (.int .i64 0), .d (.int .i64 0), .d (.bool false), .d (.int .i64 0), .d (.str (⟨#[]⟩))]⟩)] [2, 3] (sE rfl (sE rfl sE0)) (sH rfl (sH rfl sH0)) (by kernel_rfl)) ?_
      refine aw_seq ?_
      refine aw_region_seq [⟨.agg [.d (.int .i64 W), .d (.int .i64 n), .d (.int .i64 C), .d (.int .i64 B), .d (.bool pl), .d (.int .i64 P), .d (.str O)], [], [], [2]⟩, ⟨.tup [], [(3, some ⟨31, 7, [.d (.int .i64 W), .d (.int .i64 n), .d (.int .i64 C), .d (.int .i64 B), .d (.bool pl), .d (.int .i64 P), .d (.str O)]⟩)], [], [3]⟩] (by kernel_rfl) (by kernel_rfl) (fun id _ => hG id) ?_ ?_
      · exact okY rfl (LT_load 7 rfl rfl rfl (List.Mem.head _) Try.underlying31 inf31 (by simp) (.inl ⟨rfl, rfl, rfl⟩)) <| okY rfl (LT_store (ob := ⟨31, 7, [.d (.int .i64 0), .d (.int .i64 0), .d (.int .i64 0), .d (.int .i64 0), .d (.bool false), .d (.int .i64 0), .d (.str (⟨#[]⟩))]⟩) (x := .agg [.d (.int .i64 W), .d (.int .i64 n), .d (.int .i64 C), .d (.int .i64 B), .d (.bool pl), .d (.int .i64 P), .d (.str O)]) rfl rfl rfl (List.Mem.head _) inf31 rfl rfl rfl (by simp [X.cells]) _ rfl) <| okE
      change AW _ _ _ _ _ _
      refine aw_weak (weak_of [(4, .ptr 3 0)] [(3, some ⟨31, 7, [.d (.int .i64 W), .d (.int .i64 n), .d (.int .i64 C), .d (.int .i64 B), .d (.bool pl), .d (.int .i64 P), .d (.str O)]⟩)] [3] (sE rfl sE0) (sH rfl sH0) (by kernel_rfl)) ?_
      refine aw_ret ?_
      refine fin1 (x := .agg [.d (.int .i64 W), .d (.int .i64 n), .d (.int .i64 C), .d (.int .i64 B), .d (.bool pl), .d (.int .i64 P), .d (.str O)]) (.inl rfl) Try.results36 ⟨3, 0, _, _, _, 7, rfl, rfl, Try.underlying31, inf31, by simp, .inl ⟨rfl, rfl, rfl⟩⟩ ?_
      simp only [Bn.of, imX, hb1, hb2, Bool.false_eq_true, if_false, if_true, reduceIte]
    ·
      refine aw_seq ?_
      refine aw_region_seq [⟨.d (.bool (((wh % 9) : Int) == 2)), [], [], []⟩, ⟨.d (.bool (((wh % 9) : Int) == 2)), [], [], []⟩] (by kernel_rfl) (by kernel_rfl) (fun id _ => hG id) ?_ ?_
      · exact okY rfl (LT_cmp rfl rfl rfl rfl rfl) <| okY rfl (LT_assign rfl rfl) <| okE
      change AW _ _ _ _ _ _
      refine aw_weak (weak_of [(2, .ptr 1 0), (3, .ptr 2 0), (4, .ptr 3 0), (5, .d (.int .i64 i)), (6, .d (.str (strD [oc]))), (21, .d (.int .u8 (wh % 9))), (32, .d (.bool (((wh % 9) : Int) == 2)))] [(1, some ⟨26, 4, [.d (.int .u8 wh), .d (.int .u8 ap), .d (.int .u8 oc), .d (.int .i64 n)]⟩), (2, some ⟨31, 7, [.d (.int .i64 W), .d (.int .i64 H), .d (.int .i64 C), .d (.int .i64 B), .d (.bool pl), .d (.int .i64 P), .d (.str O)]⟩), (3, some ⟨31, 7, [.d (.int .i64 0), .d (.int .i64 0), .d (.int .i64 0), .d (.int .i64 0), .d (.bool false), .d (.int .i64 0), .d (.str (⟨#[]⟩))]⟩)] [1, 2, 3] (sE rfl (sE rfl (sE rfl (sE rfl (sE rfl (sE rfl (sE rfl sE0))))))) (sH rfl (sH rfl (sH rfl sH0))) (by kernel_rfl)) ?_
      refine aw_cond (((wh % 9) : Int) == 2) rfl (fun hb3 => ?_) (fun hb3 => ?_)
      ·
        refine aw_region_seq [⟨.ptr 1 3, [], [], []⟩, ⟨.d (.int .i64 n), [], [], [1]⟩, ⟨.ptr 2 2, [], [], []⟩, ⟨.tup [], [(2, some ⟨31, 7, [.d (.int .i64 W), .d (.int .i64 H), .d (.int .i64 n), .d (.int .i64 B), .d (.bool pl), .d (.int .i64 P), .d (.str O)]⟩)], [], [2]⟩] (by kernel_rfl) (by kernel_rfl) (fun id _ => hG id) ?_ ?_
        · exact okY rfl (LT_fieldAddr rfl rfl Try.underlying26 rfl inf3 (by decide) _ rfl) <| okY rfl (LT_load 1 rfl rfl rfl (List.Mem.head _) Try.underlying3 inf3 (by simp) (.inr ⟨rfl, rfl, rfl⟩)) <| okY rfl (LT_fieldAddr rfl rfl Try.underlying31 rfl inf3 (by decide) _ rfl) <| okY rfl (LT_store (ob := ⟨31, 7, [.d (.int .i64 W), .d (.int .i64 H), .d (.int .i64 C), .d (.int .i64 B), .d (.bool pl), .d (.int .i64 P), .d (.str O)]⟩) (x := .d (.int .i64 n)) rfl rfl rfl (List.Mem.head _) inf3 rfl rfl rfl (by simp [X.cells]) _ rfl) <| okE
        change AW _ _ _ _ _ _
        refine aw_weak (weak_of [(3, .ptr 2 0), (4, .ptr 3 0)] [(2, some ⟨31, 7, [.d (.int .i64 W), .d (.int .i64 H), .d (.int .i64 n), .d (.int .i64 B), .d (.bool pl), .d (.int .i64 P), .d (.str O)]⟩), (3, some ⟨31, 7, [.d (.int .i64 0), .d (.int .i64 0), .d (.int .i64 0), .d (.int .i64 0), .d (.bool false), .d (.int .i64 0), .d (.str (⟨#[]⟩))]⟩)] [2, 3] (sE rfl (sE rfl sE0)) (sH rfl (sH rfl sH0)) (by kernel_rfl)) ?_
        refine aw_seq ?_
        refine aw_region_seq [⟨.agg [.d (.int .i64 W), .d (.int .i64 H), .d (.int .i64 n), .d (.int .i64 B), .d (.bool pl), .d (.int .i64 P), .d (.str O)], [], [], [2]⟩, ⟨.tup [], [(3, some ⟨31, 7, [.d (.int .i64 W), .d (.int .i64 H), .d (.int .i64 n), .d (.int .i64 B), .d (.bool pl), .d (.int .i64 P), .d (.str O)]⟩)], [], [3]⟩] (by kernel_rfl) (by kernel_rfl) (fun id _ => hG id) ?_ ?_
        · exact okY rfl (LT_load 7 rfl rfl rfl (List.Mem.head _) Try.underlying31 inf31 (by simp) (.inl ⟨rfl, rfl, rfl⟩)) <| okY rfl (LT_store (ob := ⟨31, 7, [.d (.int .i64 0), .d (.int .i64 0), .d (.int .i64 0), .d (.int .i64 0), .d (.bool false), .d (.int .i64 0), .d (.str (⟨#[]⟩))]⟩) (x := .agg [.d (.int .i64 W), .d (.int .i64 H), .d (.int .i64 n), .d (.int .i64 B), .d (.bool pl), .d (.int .i64 P), .d (.str O)]) rfl rfl rfl (List.Mem.head _) inf31 rfl rfl rfl (by simp [X.cells]) _ rfl) <| okE
        change AW _ _ _ _ _ _
        refine aw_weak (weak_of [(4, .ptr 3 0)] [(3, some ⟨31, 7, [.d (.int .i64 W), .d (.int .i64 H), .d (.int .i64 n), .d (.int .i64 B), .d (.bool pl), .d (.int .i64 P), .d (.str O)]⟩)] [3] (sE rfl sE0) (sH rfl sH0) (by kernel_rfl)) ?_
        refine aw_ret ?_
        refine fin1 (x := .agg [.d (.int .i64 W), .d (.int .i64 H), .d (.int .i64 n), .d (.int .i64 B), .d (.bool pl), .d (.int .i64 P), .d (.str O)]) (.inl rfl) Try.results36 ⟨3, 0, _, _, _, 7, rfl, rfl, Try.underlying31, inf31, by simp, .inl ⟨rfl, rfl, rfl⟩⟩ ?_
        simp only [Bn.of, imX, hb1, hb2, hb3, Bool.false_eq_true, if_false, if_true, reduceIte]
      ·
        refine aw_seq ?_
        refine aw_region_seq [⟨.d (.bool (((wh % 9) : Int) == 3)), [], [], []⟩, ⟨.d (.bool (((wh % 9) : Int) == 3)), [], [], []⟩] (by kernel_rfl) (by kernel_rfl) (fun id _ => hG id) ?_ ?_
        · exact okY rfl (LT_cmp rfl rfl rfl rfl rfl) <| okY rfl (LT_assign rfl rfl) <| okE
        change AW _ _ _ _ _ _
        refine aw_weak (weak_of [(2, .ptr 1 0), (3, .ptr 2 0), (4, .ptr 3 0), (5, .d (.int .i64 i)), (6, .d (.str (strD [oc]))), (21, .d (.int .u8 (wh % 9))), (37, .d (.bool (((wh % 9) : Int) == 3)))] [(1, some ⟨26, 4, [.d (.int .u8 wh), .d (.int .u8 ap), .d (.int .u8 oc), .d (.int .i64 n)]⟩), (2, some ⟨31, 7, [.d (.int .i64 W), .d (.int .i64 H), .d (.int .i64 C), .d (.int .i64 B), .d (.bool pl), .d (.int .i64 P), .d (.str O)]⟩), (3, some ⟨31, 7, [.d (.int .i64 0), .d (.int .i64 0), .d (.int .i64 0), .d (.int .i64 0), .d (.bool false), .d (.int .i64 0), .d (.str (⟨#[]⟩))]⟩)] [1, 2, 3] (sE rfl (sE rfl (sE rfl (sE rfl (sE rfl (sE rfl (sE rfl sE0))))))) (sH rfl (sH rfl (sH rfl sH0))) (by kernel_rfl)) ?_
        refine aw_cond (((wh % 9) : Int) == 3) rfl (fun hb4 => ?_) (fun hb4 => ?_)
        ·
          refine aw_region_seq [⟨.ptr 1 3, [], [], []⟩, ⟨.d (.int .i64 n), [], [], [1]⟩, ⟨.ptr 2 3, [], [], []⟩, ⟨.tup [], [(2, some ⟨31, 7, [.d (.int .i64 W), .d (.int .i64 H), .d (.int .i64 C), .d (.int .i64 n), .d (.bool pl), .d (.int .i64 P), .d (.str O)]⟩)], [], [2]⟩] (by kernel_rfl) (by kernel_rfl) (fun id _ => hG id) ?_ ?_
          · exact okY rfl (LT_fieldAddr rfl rfl Try.underlying26 rfl inf3 (by decide) _ rfl) <| okY rfl (LT_load 1 rfl rfl rfl (List.Mem.head _) Try.underlying3 inf3 (by simp) (.inr ⟨rfl, rfl, rfl⟩)) <| okY rfl (LT_fieldAddr rfl rfl Try.underlying31 rfl inf3 (by decide) _ rfl) <| okY rfl (LT_store (ob := ⟨31, 7, [.d (.int .i64 W), .d (.int .i64 H), .d (.int .i64 C), .d (.int .i64 B), .d (.bool pl), .d (.int .i64 P), .d (.str O)]⟩) (x := .d (.int .i64 n)) rfl rfl rfl (List.Mem.head _) inf3 rfl rfl rfl (by simp [X.cells]) _ rfl) <| okE
          change AW _ _ _ _ _ _
          refine aw_weak (weak_of [(3, .ptr 2 0), (4, .ptr 3 0)] [(2, some ⟨31, 7, [.d (.int .i64 W), .d (.int .i64 H), .d (.int .i64 C), .d (.int .i64 n), .d (.bool pl), .d (.int .i64 P), .d (.str O)]⟩), (3, some ⟨31, 7, [.d (.int .i64 0), .d (.int .i64 0), .d (.int .i64 0), .d (.int .i64 0), .d (.bool false), .d (.int .i64 0), .d (.str (⟨#[]⟩))]⟩)] [2, 3] (sE rfl (sE rfl sE0)) (sH rfl (sH rfl sH0)) (by kernel_rfl)) ?_
          refine aw_seq ?_
          refine aw_region_seq [⟨.agg [.d (.int .i64 W), .d (.int .i64 H), .d (.int .i64 C), .d (.int .i64 n), .d (.bool pl), .d (.int .i64 P), .d (.str O)], [], [], [2]⟩, ⟨.tup [], [(3, some ⟨31, 7, [.d (.int .i64 W), .d (.int .i64 H), .d (.int .i64 C), .d (.int .i64 n), .d (.bool pl), .d (.int .i64 P), .d (.str O)]⟩)], [], [3]⟩] (by kernel_rfl) (by kernel_rfl) (fun id _ => hG id) ?_ ?_
          · exact okY rfl (LT_load 7 rfl rfl rfl (List.Mem.head _) Try.underlying31 inf31 (by simp) (.inl ⟨rfl, rfl, rfl⟩)) <| okY rfl (LT_store (ob := ⟨31, 7, [.d (.int .i64 0), .d (.int .i64 0), .d (.int .i64 0), .d (.int .i64 0), .d (.bool false), .d (.int .i64 0), .d (.str (⟨#[]⟩))]⟩) (x := .agg [.d (.int .i64 W), .d (.int .i64 H), .d (.int .i64 C), .d (.int .i64 n), .d (.bool pl), .d (.int .i64 P), .d (.str O)]) rfl rfl rfl (List.Mem.head _) inf31 rfl rfl rfl (by simp [X.cells]) _ rfl) <| okE
          change AW _ _ _ _ _ _
          refine aw_weak (weak_of [(4, .ptr 3 0)] [(3, some ⟨31, 7, [.d (.int .i64 W), .d (.int .i64 H), .d (.int .i64 C), .d (.int .i64 n), .d (.bool pl), .d (.int .i64 P), .d (.str O)]⟩)] [3] (sE rfl sE0) (sH rfl sH0) (by kernel_rfl)) ?_
          refine aw_ret ?_
          refine fin1 (x := .agg [.d (.int .i64 W), .d (.int .i64 H), .d (.int .i64 C), .d (.int .i64 n), .d (.bool pl), .d (.int .i64 P), .d (.str O)]) (.inl rfl) Try.results36 ⟨3, 0, _, _, _, 7, rfl, rfl, Try.underlying31, inf31, by simp, .inl ⟨rfl, rfl, rfl⟩⟩ ?_
          simp only [Bn.of, imX, hb1, hb2, hb3, hb4, Bool.false_eq_true, if_false, if_true, reduceIte]
        ·
          refine aw_seq ?_
          refine aw_region_seq [⟨.d (.bool (((wh % 9) : Int) == 4)), [], [], []⟩, ⟨.d (.bool (((wh % 9) : Int) == 4)), [], [], []⟩] (by kernel_rfl) (by kernel_rfl) (fun id _ => hG id) ?_ ?_
          · exact okY rfl (LT_cmp rfl rfl rfl rfl rfl) <| okY rfl (LT_assign rfl rfl) <| okE
          change AW _ _ _ _ _ _
          refine aw_weak (weak_of [(2, .ptr 1 0), (3, .ptr 2 0), (4, .ptr 3 0), (5, .d (.int .i64 i)), (6, .d (.str (strD [oc]))), (21, .d (.int .u8 (wh % 9))), (42, .d (.bool (((wh % 9) : Int) == 4)))] [(1, some ⟨26, 4, [.d (.int .u8 wh), .d (.int .u8 ap), .d (.int .u8 oc), .d (.int .i64 n)]⟩), (2, some ⟨31, 7, [.d (.int .i64 W), .d (.int .i64 H), .d (.int .i64 C), .d (.int .i64 B), .d (.bool pl), .d (.int .i64 P), .d (.str O)]⟩), (3, some ⟨31, 7, [.d (.int .i64 0), .d (.int .i64 0), .d (.int .i64 0), .d (.int .i64 0), .d (.bool false), .d (.int .i64 0), .d (.str (⟨#[]⟩))]⟩)] [1, 2, 3] (sE rfl (sE rfl (sE rfl (sE rfl (sE rfl (sE rfl (sE rfl sE0))))))) (sH rfl (sH rfl (sH rfl sH0))) (by kernel_rfl)) ?_
          refine aw_cond (((wh % 9) : Int) == 4) rfl (fun hb5 => ?_) (fun hb5 => ?_)
          ·
            refine aw_region_seq [⟨.ptr 1 3, [], [], []⟩, ⟨.d (.int .i64 n), [], [], [1]⟩, ⟨.ptr 2 5, [], [], []⟩, ⟨.tup [], [(2, some ⟨31, 7, [.d (.int .i64 W), .d (.int .i64 H), .d (.int .i64 C), .d (.int .i64 B), .d (.bool pl), .d (.int .i64 n), .d (.str O)]⟩)], [], [2]⟩] (by kernel_rfl) (by kernel_rfl) (fun id _ => hG id) ?_ ?_
            · exact okY rfl (LT_fieldAddr rfl rfl Try.underlying26 rfl inf3 (by decide) _ rfl) <| okY rfl (LT_load 1 rfl rfl rfl (List.Mem.head _) Try.underlying3 inf3 (by simp) (.inr ⟨rfl, rfl, rfl⟩)) <| okY rfl (LT_fieldAddr rfl rfl Try.underlying31 rfl inf3 (by decide) _ rfl) <| okY rfl (LT_store (ob := ⟨31, 7, [.d (.int .i64 W), .d (.int .i64 H), .d (.int .i64 C), .d (.int .i64 B), .d (.bool pl), .d (.int .i64 P), .d (.str O)]⟩) (x := .d (.int .i64 n)) rfl rfl rfl (List.Mem.head _) inf3 rfl rfl rfl (by simp [X.cells]) _ rfl) <| okE
            change AW _ _ _ _ _ _
            refine aw_weak (weak_of [(3, .ptr 2 0), (4, .ptr 3 0)] [(2, some ⟨31, 7, [.d (.int .i64 W), .d (.int .i64 H), .d (.int .i64 C), .d (.int .i64 B), .d (.bool pl), .d (.int .i64 n), .d (.str O)]⟩), (3, some ⟨31, 7, [.d (.int .i64 0), .d (.int .i64 0), .d (.int .i64 0), .d (.int .i64 0), .d (.bool false), .d (.int .i64 0), .d (.str (⟨#[]⟩))]⟩)] [2, 3] (sE rfl (sE rfl sE0)) (sH rfl (sH rfl sH0)) (by kernel_rfl)) ?_
            refine aw_seq ?_
            refine aw_region_seq [⟨.agg [.d (.int .i64 W), .d (.int .i64 H), .d (.int .i64 C), .d (.int .i64 B), .d (.bool pl), .d (.int .i64 n), .d (.str O)], [], [], [2]⟩, ⟨.tup [], [(3, some ⟨31, 7, [.d (.int .i64 W), .d (.int .i64 H), .d (.int .i64 C), .d (.int .i64 B), .d (.bool pl), .d (.int .i64 n), .d (.str O)]⟩)], [], [3]⟩] (by kernel_rfl) (by kernel_rfl) (fun id _ => hG id) ?_ ?_
            · exact okY rfl (LT_load 7 rfl rfl rfl (List.Mem.head _) Try.underlying31 inf31 (by simp) (.inl ⟨rfl, rfl, rfl⟩)) <| okY rfl (LT_store (ob := ⟨31, 7, [.d (.int .i64 0), .d (.int .i64 0), .d (.int .i64 0), .d (.int .i64 0), .d (.bool false), .d (.int .i64 0), .d (.str (⟨#[]⟩))]⟩) (x := .agg [.d (.int .i64 W), .d (.int .i64 H), .d (.int .i64 C), .d (.int .i64 B), .d (.bool pl), .d (.int .i64 n), .d (.str O)]) rfl rfl rfl (List.Mem.head _) inf31 rfl rfl rfl (by simp [X.cells]) _ rfl) <| okE
            change AW _ _ _ _ _ _
            refine aw_weak (weak_of [(4, .ptr 3 0)] [(3, some ⟨31, 7, [.d (.int .i64 W), .d (.int .i64 H), .d (.int .i64 C), .d (.int .i64 B), .d (.bool pl), .d (.int .i64 n), .d (.str O)]⟩)] [3] (sE rfl sE0) (sH rfl sH0) (by kernel_rfl)) ?_
            refine aw_ret ?_
            refine fin1 (x := .agg [.d (.int .i64 W), .d (.int .i64 H), .d (.int .i64 C), .d (.int .i64 B), .d (.bool pl), .d (.int .i64 n), .d (.str O)]) (.inl rfl) Try.results36 ⟨3, 0, _, _, _, 7, rfl, rfl, Try.underlying31, inf31, by simp, .inl ⟨rfl, rfl, rfl⟩⟩ ?_
            simp only [Bn.of, imX, hb1, hb2, hb3, hb4, hb5, Bool.false_eq_true, if_false, if_true, reduceIte]
          ·
            refine aw_seq ?_
            refine aw_region_seq [⟨.d (.bool (((wh % 9) : Int) == 5)), [], [], []⟩, ⟨.d (.bool (((wh % 9) : Int) == 5)), [], [], []⟩] (by kernel_rfl) (by kernel_rfl) (fun id _ => hG id) ?_ ?_
            · exact okY rfl (LT_cmp rfl rfl rfl rfl rfl) <| okY rfl (LT_assign rfl rfl) <| okE
            change AW _ _ _ _ _ _
            refine aw_weak (weak_of [(3, .ptr 2 0), (4, .ptr 3 0), (5, .d (.int .i64 i)), (6, .d (.str (strD [oc]))), (21, .d (.int .u8 (wh % 9))), (47, .d (.bool (((wh % 9) : Int) == 5)))] [(2, some ⟨31, 7, [.d (.int .i64 W), .d (.int .i64 H), .d (.int .i64 C), .d (.int .i64 B), .d (.bool pl), .d (.int .i64 P), .d (.str O)]⟩), (3, some ⟨31, 7, [.d (.int .i64 0), .d (.int .i64 0), .d (.int .i64 0), .d (.int .i64 0), .d (.bool false), .d (.int .i64 0), .d (.str (⟨#[]⟩))]⟩)] [2, 3] (sE rfl (sE rfl (sE rfl (sE rfl (sE rfl (sE rfl sE0)))))) (sH rfl (sH rfl sH0)) (by kernel_rfl)) ?_
            refine aw_cond (((wh % 9) : Int) == 5) rfl (fun hb6 => ?_) (fun hb6 => ?_)
            ·
              refine aw_region_seq [⟨.ptr 2 4, [], [], []⟩, ⟨.d (.bool pl), [], [], [2]⟩, ⟨.d (.bool (!pl)), [], [], []⟩, ⟨.ptr 2 4, [], [], []⟩, ⟨.tup [], [(2, some ⟨31, 7, [.d (.int .i64 W), .d (.int .i64 H), .d (.int .i64 C), .d (.int .i64 B), .d (.bool (!pl)), .d (.int .i64 P), .d (.str O)]⟩)], [], [2]⟩] (by kernel_rfl) (by kernel_rfl) (fun id _ => hG id) ?_ ?_
              · exact okY rfl (LT_fieldAddr rfl rfl Try.underlying31 rfl inf4 (by decide) _ rfl) <| okY rfl (LT_load 1 rfl rfl rfl (List.Mem.head _) Try.underlying4 inf4 (by simp) (.inr ⟨rfl, rfl, rfl⟩)) <| okY rfl (LT_not rfl rfl rfl) <| okY rfl (LT_fieldAddr rfl rfl Try.underlying31 rfl inf4 (by decide) _ rfl) <| okY rfl (LT_store (ob := ⟨31, 7, [.d (.int .i64 W), .d (.int .i64 H), .d (.int .i64 C), .d (.int .i64 B), .d (.bool pl), .d (.int .i64 P), .d (.str O)]⟩) (x := .d (.bool (!pl))) rfl rfl rfl (List.Mem.head _) inf4 rfl rfl rfl (by simp [X.cells]) _ rfl) <| okE
              change AW _ _ _ _ _ _
              refine aw_weak (weak_of [(3, .ptr 2 0), (4, .ptr 3 0)] [(2, some ⟨31, 7, [.d (.int .i64 W), .d (.int .i64 H), .d (.int .i64 C), .d (.int .i64 B), .d (.bool (!pl)), .d (.int .i64 P), .d (.str O)]⟩), (3, some ⟨31, 7, [.d (.int .i64 0), .d (.int .i64 0), .d (.int .i64 0), .d (.int .i64 0), .d (.bool false), .d (.int .i64 0), .d (.str (⟨#[]⟩))]⟩)] [2, 3] (sE rfl (sE rfl sE0)) (sH rfl (sH rfl sH0)) (by kernel_rfl)) ?_
              refine aw_seq ?_
              refine aw_region_seq [⟨.agg [.d (.int .i64 W), .d (.int .i64 H), .d (.int .i64 C), .d (.int .i64 B), .d (.bool (!pl)), .d (.int .i64 P), .d (.str O)], [], [], [2]⟩, ⟨.tup [], [(3, some ⟨31, 7, [.d (.int .i64 W), .d (.int .i64 H), .d (.int .i64 C), .d (.int .i64 B), .d (.bool (!pl)), .d (.int .i64 P), .d (.str O)]⟩)], [], [3]⟩] (by kernel_rfl) (by kernel_rfl) (fun id _ => hG id) ?_ ?_
              · exact okY rfl (LT_load 7 rfl rfl rfl (List.Mem.head _) Try.underlying31 inf31 (by simp) (.inl ⟨rfl, rfl, rfl⟩)) <| okY rfl (LT_store (ob := ⟨31, 7, [.d (.int .i64 0), .d (.int .i64 0), .d (.int .i64 0), .d (.int .i64 0), .d (.bool false), .d (.int .i64 0), .d (.str (⟨#[]⟩))]⟩) (x := .agg [.d (.int .i64 W), .d (.int .i64 H), .d (.int .i64 C), .d (.int .i64 B), .d (.bool (!pl)), .d (.int .i64 P), .d (.str O)]) rfl rfl rfl (List.Mem.head _) inf31 rfl rfl rfl (by simp [X.cells]) _ rfl) <| okE
              change AW _ _ _ _ _ _
              refine aw_weak (weak_of [(4, .ptr 3 0)] [(3, some ⟨31, 7, [.d (.int .i64 W), .d (.int .i64 H), .d (.int .i64 C), .d (.int .i64 B), .d (.bool (!pl)), .d (.int .i64 P), .d (.str O)]⟩)] [3] (sE rfl sE0) (sH rfl sH0) (by kernel_rfl)) ?_
              refine aw_ret ?_
              refine fin1 (x := .agg [.d (.int .i64 W), .d (.int .i64 H), .d (.int .i64 C), .d (.int .i64 B), .d (.bool (!pl)), .d (.int .i64 P), .d (.str O)]) (.inl rfl) Try.results36 ⟨3, 0, _, _, _, 7, rfl, rfl, Try.underlying31, inf31, by simp, .inl ⟨rfl, rfl, rfl⟩⟩ ?_
              simp only [Bn.of, imX, hb1, hb2, hb3, hb4, hb5, hb6, Bool.false_eq_true, if_false, if_true, reduceIte]
            ·
              refine aw_seq ?_
              refine aw_region_seq [⟨.d (.bool (((wh % 9) : Int) == 6)), [], [], []⟩, ⟨.d (.bool (((wh % 9) : Int) == 6)), [], [], []⟩] (by kernel_rfl) (by kernel_rfl) (fun id _ => hG id) ?_ ?_
              · exact okY rfl (LT_cmp rfl rfl rfl rfl rfl) <| okY rfl (LT_assign rfl rfl) <| okE
              change AW _ _ _ _ _ _
              refine aw_weak (weak_of [(3, .ptr 2 0), (4, .ptr 3 0), (5, .d (.int .i64 i)), (6, .d (.str (strD [oc]))), (21, .d (.int .u8 (wh % 9))), (53, .d (.bool (((wh % 9) : Int) == 6)))] [(2, some ⟨31, 7, [.d (.int .i64 W), .d (.int .i64 H), .d (.int .i64 C), .d (.int .i64 B), .d (.bool pl), .d (.int .i64 P), .d (.str O)]⟩), (3, some ⟨31, 7, [.d (.int .i64 0), .d (.int .i64 0), .d (.int .i64 0), .d (.int .i64 0), .d (.bool false), .d (.int .i64 0), .d (.str (⟨#[]⟩))]⟩)] [2, 3] (sE rfl (sE rfl (sE rfl (sE rfl (sE rfl (sE rfl sE0)))))) (sH rfl (sH rfl sH0)) (by kernel_rfl)) ?_
              refine aw_cond (((wh % 9) : Int) == 6) rfl (fun hb7 => ?_) (fun hb7 => ?_)
              ·
                refine aw_region_seq [⟨.ptr 2 6, [], [], []⟩, ⟨.d (.str O), [], [], [2]⟩, ⟨.d (.int .i64 i), [], [], []⟩, ⟨.d (.str (O.extract 0 i.toNat)), [], [], []⟩, ⟨.ptr 2 6, [], [], []⟩, ⟨.tup [], [(2, some ⟨31, 7, [.d (.int .i64 W), .d (.int .i64 H), .d (.int .i64 C), .d (.int .i64 B), .d (.bool pl), .d (.int .i64 P), .d (.str (O.extract 0 i.toNat))]⟩)], [], [2]⟩] (by kernel_rfl) (by kernel_rfl) (fun id _ => hG id) ?_ ?_
                · exact okY rfl (LT_fieldAddr rfl rfl Try.underlying31 rfl inf9 (by decide) _ rfl) <| okY rfl (LT_load 1 rfl rfl rfl (List.Mem.head _) Try.underlying9 inf9 (by simp) (.inr ⟨rfl, rfl, rfl⟩)) <| okY rfl (LT_move rfl rfl) <| okY rfl (LT_sliceS rfl Try.underlying9 rfl (.inl ⟨rfl, rfl⟩) (.inr ⟨_, _, rfl, rfl⟩) (by omega) (by omega) (by omega) rfl) <| okY rfl (LT_fieldAddr rfl rfl Try.underlying31 rfl inf9 (by decide) _ rfl) <| okY rfl (LT_store (ob := ⟨31, 7, [.d (.int .i64 W), .d (.int .i64 H), .d (.int .i64 C), .d (.int .i64 B), .d (.bool pl), .d (.int .i64 P), .d (.str O)]⟩) (x := .d (.str (O.extract 0 i.toNat))) rfl rfl rfl (List.Mem.head _) inf9 rfl rfl rfl (by simp [X.cells]) _ rfl) <| okE
                change AW _ _ _ _ _ _
                refine aw_weak (weak_of [(3, .ptr 2 0), (4, .ptr 3 0)] [(2, some ⟨31, 7, [.d (.int .i64 W), .d (.int .i64 H), .d (.int .i64 C), .d (.int .i64 B), .d (.bool pl), .d (.int .i64 P), .d (.str (O.extract 0 i.toNat))]⟩), (3, some ⟨31, 7, [.d (.int .i64 0), .d (.int .i64 0), .d (.int .i64 0), .d (.int .i64 0), .d (.bool false), .d (.int .i64 0), .d (.str (⟨#[]⟩))]⟩)] [2, 3] (sE rfl (sE rfl sE0)) (sH rfl (sH rfl sH0)) (by kernel_rfl)) ?_
                refine aw_seq ?_
                refine aw_region_seq [⟨.agg [.d (.int .i64 W), .d (.int .i64 H), .d (.int .i64 C), .d (.int .i64 B), .d (.bool pl), .d (.int .i64 P), .d (.str (O.extract 0 i.toNat))], [], [], [2]⟩, ⟨.tup [], [(3, some ⟨31, 7, [.d (.int .i64 W), .d (.int .i64 H), .d (.int .i64 C), .d (.int .i64 B), .d (.bool pl), .d (.int .i64 P), .d (.str (O.extract 0 i.toNat))]⟩)], [], [3]⟩] (by kernel_rfl) (by kernel_rfl) (fun id _ => hG id) ?_ ?_
                · exact okY rfl (LT_load 7 rfl rfl rfl (List.Mem.head _) Try.underlying31 inf31 (by simp) (.inl ⟨rfl, rfl, rfl⟩)) <| okY rfl (LT_store (ob := ⟨31, 7, [.d (.int .i64 0), .d (.int .i64 0), .d (.int .i64 0), .d (.int .i64 0), .d (.bool false), .d (.int .i64 0), .d (.str (⟨#[]⟩))]⟩) (x := .agg [.d (.int .i64 W), .d (.int .i64 H), .d (.int .i64 C), .d (.int .i64 B), .d (.bool pl), .d (.int .i64 P), .d (.str (O.extract 0 i.toNat))]) rfl rfl rfl (List.Mem.head _) inf31 rfl rfl rfl (by simp [X.cells]) _ rfl) <| okE
                change AW _ _ _ _ _ _
                refine aw_weak (weak_of [(4, .ptr 3 0)] [(3, some ⟨31, 7, [.d (.int .i64 W), .d (.int .i64 H), .d (.int .i64 C), .d (.int .i64 B), .d (.bool pl), .d (.int .i64 P), .d (.str (O.extract 0 i.toNat))]⟩)] [3] (sE rfl sE0) (sH rfl sH0) (by kernel_rfl)) ?_
                refine aw_ret ?_
                refine fin1 (x := .agg [.d (.int .i64 W), .d (.int .i64 H), .d (.int .i64 C), .d (.int .i64 B), .d (.bool pl), .d (.int .i64 P), .d (.str (O.extract 0 i.toNat))]) (.inl rfl) Try.results36 ⟨3, 0, _, _, _, 7, rfl, rfl, Try.underlying31, inf31, by simp, .inl ⟨rfl, rfl, rfl⟩⟩ ?_
                simp only [Bn.of, imX, hb1, hb2, hb3, hb4, hb5, hb6, hb7, Bool.false_eq_true, if_false, if_true, reduceIte]
              ·
                refine aw_seq ?_
                refine aw_region_seq [⟨.d (.bool (((wh % 9) : Int) == 7)), [], [], []⟩, ⟨.d (.bool (((wh % 9) : Int) == 7)), [], [], []⟩] (by kernel_rfl) (by kernel_rfl) (fun id _ => hG id) ?_ ?_
                · exact okY rfl (LT_cmp rfl rfl rfl rfl rfl) <| okY rfl (LT_assign rfl rfl) <| okE
                change AW _ _ _ _ _ _
                refine aw_weak (weak_of [(3, .ptr 2 0), (4, .ptr 3 0), (5, .d (.int .i64 i)), (6, .d (.str (strD [oc]))), (21, .d (.int .u8 (wh % 9))), (60, .d (.bool (((wh % 9) : Int) == 7)))] [(2, some ⟨31, 7, [.d (.int .i64 W), .d (.int .i64 H), .d (.int .i64 C), .d (.int .i64 B), .d (.bool pl), .d (.int .i64 P), .d (.str O)]⟩), (3, some ⟨31, 7, [.d (.int .i64 0), .d (.int .i64 0), .d (.int .i64 0), .d (.int .i64 0), .d (.bool false), .d (.int .i64 0), .d (.str (⟨#[]⟩))]⟩)] [2, 3] (sE rfl (sE rfl (sE rfl (sE rfl (sE rfl (sE rfl sE0)))))) (sH rfl (sH rfl sH0)) (by kernel_rfl)) ?_
                refine aw_cond (((wh % 9) : Int) == 7) rfl (fun hb8 => ?_) (fun hb8 => ?_)
                ·
                  refine aw_region_any rfl [⟨.ptr 2 6, [], [], []⟩, ⟨.d (.str O), [], [], [2]⟩, ⟨.d (.int .i64 i), [], [], []⟩, ⟨.d (.str (O.extract 0 i.toNat)), [], [], []⟩, ⟨.d (.str (strD [oc])), [], [], []⟩, ⟨.d (.str ((O.extract 0 i.toNat) ++ (strD [oc]))), [], [], []⟩, ⟨.ptr 2 6, [], [], []⟩, ⟨.d (.str O), [], [], [2]⟩, ⟨.d (.int .i64 i), [], [], []⟩, ⟨.d (.str (O.extract i.toNat O.size)), [], [], []⟩, ⟨.d (.str (((O.extract 0 i.toNat) ++ (strD [oc])) ++ (O.extract i.toNat O.size))), [], [], []⟩, ⟨.ptr 2 6, [], [], []⟩, ⟨.tup [], [(2, some ⟨31, 7, [.d (.int .i64 W), .d (.int .i64 H), .d (.int .i64 C), .d (.int .i64 B), .d (.bool pl), .d (.int .i64 P), .d (.str (((O.extract 0 i.toNat) ++ (strD [oc])) ++ (O.extract i.toNat O.size)))]⟩)], [], [2]⟩] (by kernel_rfl) (by kernel_rfl) (by kernel_rfl) (fun id _ => hG id) ?_ ?_
                  · exact okY rfl (LT_fieldAddr rfl rfl Try.underlying31 rfl inf9 (by decide) _ rfl) <| okY rfl (LT_load 1 rfl rfl rfl (List.Mem.head _) Try.underlying9 inf9 (by simp) (.inr ⟨rfl, rfl, rfl⟩)) <| okY rfl (LT_move rfl rfl) <| okY rfl (LT_sliceS rfl Try.underlying9 rfl (.inl ⟨rfl, rfl⟩) (.inr ⟨_, _, rfl, rfl⟩) (by omega) (by omega) (by omega) rfl) <| okY rfl (LT_move rfl rfl) <| okY rfl (LT_strcat rfl rfl rfl (by first | omega | (simp only [ByteArray.size_append, ByteArray.size_extract]; omega)) rfl) <| okY rfl (LT_fieldAddr rfl rfl Try.underlying31 rfl inf9 (by decide) _ rfl) <| okY rfl (LT_load 1 rfl rfl rfl (List.Mem.head _) Try.underlying9 inf9 (by simp) (.inr ⟨rfl, rfl, rfl⟩)) <| okY rfl (LT_move rfl rfl) <| okY rfl (LT_sliceS rfl Try.underlying9 rfl (.inr ⟨_, _, rfl, rfl⟩) (.inl ⟨rfl, rfl⟩) (by omega) (by omega) (by omega) rfl) <| okY rfl (LT_strcat rfl rfl rfl (by first | omega | (simp only [ByteArray.size_append, ByteArray.size_extract]; omega)) rfl) <| okY rfl (LT_fieldAddr rfl rfl Try.underlying31 rfl inf9 (by decide) _ rfl) <| okY rfl (LT_store (ob := ⟨31, 7, [.d (.int .i64 W), .d (.int .i64 H), .d (.int .i64 C), .d (.int .i64 B), .d (.bool pl), .d (.int .i64 P), .d (.str O)]⟩) (x := .d (.str (((O.extract 0 i.toNat) ++ (strD [oc])) ++ (O.extract i.toNat O.size)))) rfl rfl rfl (List.Mem.head _) inf9 rfl rfl rfl (by simp [X.cells]) _ rfl) <| okE
                  change AW _ _ _ _ _ _
                  refine aw_weak (weak_of [(3, .ptr 2 0), (4, .ptr 3 0)] [(2, some ⟨31, 7, [.d (.int .i64 W), .d (.int .i64 H), .d (.int .i64 C), .d (.int .i64 B), .d (.bool pl), .d (.int .i64 P), .d (.str (((O.extract 0 i.toNat) ++ (strD [oc])) ++ (O.extract i.toNat O.size)))]⟩), (3, some ⟨31, 7, [.d (.int .i64 0), .d (.int .i64 0), .d (.int .i64 0), .d (.int .i64 0), .d (.bool false), .d (.int .i64 0), .d (.str (⟨#[]⟩))]⟩)] [2, 3] (sE rfl (sE rfl sE0)) (sH rfl (sH rfl sH0)) (by kernel_rfl)) ?_
                  refine aw_seq ?_
                  refine aw_region_seq [⟨.agg [.d (.int .i64 W), .d (.int .i64 H), .d (.int .i64 C), .d (.int .i64 B), .d (.bool pl), .d (.int .i64 P), .d (.str (((O.extract 0 i.toNat) ++ (strD [oc])) ++ (O.extract i.toNat O.size)))], [], [], [2]⟩, ⟨.tup [], [(3, some ⟨31, 7, [.d (.int .i64 W), .d (.int .i64 H), .d (.int .i64 C), .d (.int .i64 B), .d (.bool pl), .d (.int .i64 P), .d (.str (((O.extract 0 i.toNat) ++ (strD [oc])) ++ (O.extract i.toNat O.size)))]⟩)], [], [3]⟩] (by kernel_rfl) (by kernel_rfl) (fun id _ => hG id) ?_ ?_
                  · exact okY rfl (LT_load 7 rfl rfl rfl (List.Mem.head _) Try.underlying31 inf31 (by simp) (.inl ⟨rfl, rfl, rfl⟩)) <| okY rfl (LT_store (ob := ⟨31, 7, [.d (.int .i64 0), .d (.int .i64 0), .d (.int .i64 0), .d (.int .i64 0), .d (.bool false), .d (.int .i64 0), .d (.str (⟨#[]⟩))]⟩) (x := .agg [.d (.int .i64 W), .d (.int .i64 H), .d (.int .i64 C), .d (.int .i64 B), .d (.bool pl), .d (.int .i64 P), .d (.str (((O.extract 0 i.toNat) ++ (strD [oc])) ++ (O.extract i.toNat O.size)))]) rfl rfl rfl (List.Mem.head _) inf31 rfl rfl rfl (by simp [X.cells]) _ rfl) <| okE
                  change AW _ _ _ _ _ _
                  refine aw_weak (weak_of [(4, .ptr 3 0)] [(3, some ⟨31, 7, [.d (.int .i64 W), .d (.int .i64 H), .d (.int .i64 C), .d (.int .i64 B), .d (.bool pl), .d (.int .i64 P), .d (.str (((O.extract 0 i.toNat) ++ (strD [oc])) ++ (O.extract i.toNat O.size)))]⟩)] [3] (sE rfl sE0) (sH rfl sH0) (by kernel_rfl)) ?_
                  refine aw_ret ?_
                  refine fin1 (x := .agg [.d (.int .i64 W), .d (.int .i64 H), .d (.int .i64 C), .d (.int .i64 B), .d (.bool pl), .d (.int .i64 P), .d (.str (((O.extract 0 i.toNat) ++ (strD [oc])) ++ (O.extract i.toNat O.size)))]) (.inl rfl) Try.results36 ⟨3, 0, _, _, _, 7, rfl, rfl, Try.underlying31, inf31, by simp, .inl ⟨rfl, rfl, rfl⟩⟩ ?_
                  simp only [Bn.of, imX, hb1, hb2, hb3, hb4, hb5, hb6, hb7, hb8, Bool.false_eq_true, if_false, if_true, reduceIte]
                ·
                  refine aw_seq ?_
                  refine aw_region_seq [⟨.d (.bool (((wh % 9) : Int) == 8)), [], [], []⟩, ⟨.d (.bool (((wh % 9) : Int) == 8)), [], [], []⟩] (by kernel_rfl) (by kernel_rfl) (fun id _ => hG id) ?_ ?_
                  · exact okY rfl (LT_cmp rfl rfl rfl rfl rfl) <| okY rfl (LT_assign rfl rfl) <| okE
                  change AW _ _ _ _ _ _
                  refine aw_weak (weak_of [(3, .ptr 2 0), (4, .ptr 3 0), (5, .d (.int .i64 i)), (6, .d (.str (strD [oc]))), (74, .d (.bool (((wh % 9) : Int) == 8)))] [(2, some ⟨31, 7, [.d (.int .i64 W), .d (.int .i64 H), .d (.int .i64 C), .d (.int .i64 B), .d (.bool pl), .d (.int .i64 P), .d (.str O)]⟩), (3, some ⟨31, 7, [.d (.int .i64 0), .d (.int .i64 0), .d (.int .i64 0), .d (.int .i64 0), .d (.bool false), .d (.int .i64 0), .d (.str (⟨#[]⟩))]⟩)] [2, 3] (sE rfl (sE rfl (sE rfl (sE rfl (sE rfl sE0))))) (sH rfl (sH rfl sH0)) (by kernel_rfl)) ?_
                  refine aw_cond (((wh % 9) : Int) == 8) rfl (fun hb9 => ?_) (fun hb9 => ?_)
                  ·
                    refine aw_seq ?_
                    refine aw_region_seq [⟨.d (.int .i64 i), [], [], []⟩, ⟨.ptr 2 6, [], [], []⟩, ⟨.d (.str O), [], [], [2]⟩, ⟨.d (.int .i64 ((O.size : Nat) : Int)), [], [], []⟩, ⟨.d (.bool (decide ((i : Int) < ((O.size : Nat) : Int)))), [], [], []⟩] (by kernel_rfl) (by kernel_rfl) (fun id _ => hG id) ?_ ?_
                    · exact okY rfl (LT_move rfl rfl) <| okY rfl (LT_fieldAddr rfl rfl Try.underlying31 rfl inf9 (by decide) _ rfl) <| okY rfl (LT_load 1 rfl rfl rfl (List.Mem.head _) Try.underlying9 inf9 (by simp) (.inr ⟨rfl, rfl, rfl⟩)) <| okY rfl (LT_lenS rfl Try.underlying9 rfl) <| okY rfl (LT_cmp rfl rfl rfl rfl rfl) <| okE
                    change AW _ _ _ _ _ _
                    refine aw_weak (weak_of [(3, .ptr 2 0), (4, .ptr 3 0), (5, .d (.int .i64 i)), (6, .d (.str (strD [oc]))), (80, .d (.bool (decide ((i : Int) < ((O.size : Nat) : Int)))))] [(2, some ⟨31, 7, [.d (.int .i64 W), .d (.int .i64 H), .d (.int .i64 C), .d (.int .i64 B), .d (.bool pl), .d (.int .i64 P), .d (.str O)]⟩), (3, some ⟨31, 7, [.d (.int .i64 0), .d (.int .i64 0), .d (.int .i64 0), .d (.int .i64 0), .d (.bool false), .d (.int .i64 0), .d (.str (⟨#[]⟩))]⟩)] [2, 3] (sE rfl (sE rfl (sE rfl (sE rfl (sE rfl sE0))))) (sH rfl (sH rfl sH0)) (by kernel_rfl)) ?_
                    refine aw_cond (decide ((i : Int) < ((O.size : Nat) : Int))) rfl (fun hb10 => ?_) (fun hb10 => ?_)
                    ·
                      replace hb10 := of_decide_eq_true hb10
                      refine aw_region_any rfl [⟨.ptr 2 6, [], [], []⟩, ⟨.d (.str O), [], [], [2]⟩, ⟨.d (.int .i64 i), [], [], []⟩, ⟨.d (.str (O.extract 0 i.toNat)), [], [], []⟩, ⟨.d (.str (strD [oc])), [], [], []⟩, ⟨.d (.str ((O.extract 0 i.toNat) ++ (strD [oc]))), [], [], []⟩, ⟨.ptr 2 6, [], [], []⟩, ⟨.d (.str O), [], [], [2]⟩, ⟨.d (.int .i64 i), [], [], []⟩, ⟨.d (.int .i64 (i + 1)), [], [], []⟩, ⟨.d (.str (O.extract (i + 1).toNat O.size)), [], [], []⟩, ⟨.d (.str (((O.extract 0 i.toNat) ++ (strD [oc])) ++ (O.extract (i + 1).toNat O.size))), [], [], []⟩, ⟨.ptr 2 6, [], [], []⟩, ⟨.tup [], [(2, some ⟨31, 7, [.d (.int .i64 W), .d (.int .i64 H), .d (.int .i64 C), .d (.int .i64 B), .d (.bool pl), .d (.int .i64 P), .d (.str (((O.extract 0 i.toNat) ++ (strD [oc])) ++ (O.extract (i + 1).toNat O.size)))]⟩)], [], [2]⟩] (by kernel_rfl) (by kernel_rfl) (by kernel_rfl) (fun id _ => hG id) ?_ ?_
                      · exact okY rfl (LT_fieldAddr rfl rfl Try.underlying31 rfl inf9 (by decide) _ rfl) <| okY rfl (LT_load 1 rfl rfl rfl (List.Mem.head _) Try.underlying9 inf9 (by simp) (.inr ⟨rfl, rfl, rfl⟩)) <| okY rfl (LT_move rfl rfl) <| okY rfl (LT_sliceS rfl Try.underlying9 rfl (.inl ⟨rfl, rfl⟩) (.inr ⟨_, _, rfl, rfl⟩) (by omega) (by omega) (by omega) rfl) <| okY rfl (LT_move rfl rfl) <| okY rfl (LT_strcat rfl rfl rfl (by first | omega | (simp only [ByteArray.size_append, ByteArray.size_extract]; omega)) rfl) <| okY rfl (LT_fieldAddr rfl rfl Try.underlying31 rfl inf9 (by decide) _ rfl) <| okY rfl (LT_load 1 rfl rfl rfl (List.Mem.head _) Try.underlying9 inf9 (by simp) (.inr ⟨rfl, rfl, rfl⟩)) <| okY rfl (LT_move rfl rfl) <| okY rfl (LT_add rfl rfl rfl (wi64 (by omega) (by omega))) <| okY rfl (LT_sliceS rfl Try.underlying9 rfl (.inr ⟨_, _, rfl, rfl⟩) (.inl ⟨rfl, rfl⟩) (by omega) (by omega) (by omega) rfl) <| okY rfl (LT_strcat rfl rfl rfl (by first | omega | (simp only [ByteArray.size_append, ByteArray.size_extract]; omega)) rfl) <| okY rfl (LT_fieldAddr rfl rfl Try.underlying31 rfl inf9 (by decide) _ rfl) <| okY rfl (LT_store (ob := ⟨31, 7, [.d (.int .i64 W), .d (.int .i64 H), .d (.int .i64 C), .d (.int .i64 B), .d (.bool pl), .d (.int .i64 P), .d (.str O)]⟩) (x := .d (.str (((O.extract 0 i.toNat) ++ (strD [oc])) ++ (O.extract (i + 1).toNat O.size)))) rfl rfl rfl (List.Mem.head _) inf9 rfl rfl rfl (by simp [X.cells]) _ rfl) <| okE
                      change AW _ _ _ _ _ _
                      refine aw_weak (weak_of [(3, .ptr 2 0), (4, .ptr 3 0)] [(2, some ⟨31, 7, [.d (.int .i64 W), .d (.int .i64 H), .d (.int .i64 C), .d (.int .i64 B), .d (.bool pl), .d (.int .i64 P), .d (.str (((O.extract 0 i.toNat) ++ (strD [oc])) ++ (O.extract (i + 1).toNat O.size)))]⟩), (3, some ⟨31, 7, [.d (.int .i64 0), .d (.int .i64 0), .d (.int .i64 0), .d (.int .i64 0), .d (.bool false), .d (.int .i64 0), .d (.str (⟨#[]⟩))]⟩)] [2, 3] (sE rfl (sE rfl sE0)) (sH rfl (sH rfl sH0)) (by kernel_rfl)) ?_
                      refine aw_seq ?_
                      refine aw_region_seq [⟨.agg [.d (.int .i64 W), .d (.int .i64 H), .d (.int .i64 C), .d (.int .i64 B), .d (.bool pl), .d (.int .i64 P), .d (.str (((O.extract 0 i.toNat) ++ (strD [oc])) ++ (O.extract (i + 1).toNat O.size)))], [], [], [2]⟩, ⟨.tup [], [(3, some ⟨31, 7, [.d (.int .i64 W), .d (.int .i64 H), .d (.int .i64 C), .d (.int .i64 B), .d (.bool pl), .d (.int .i64 P), .d (.str (((O.extract 0 i.toNat) ++ (strD [oc])) ++ (O.extract (i + 1).toNat O.size)))]⟩)], [], [3]⟩] (by kernel_rfl) (by kernel_rfl) (fun id _ => hG id) ?_ ?_
                      · exact okY rfl (LT_load 7 rfl rfl rfl (List.Mem.head _) Try.underlying31 inf31 (by simp) (.inl ⟨rfl, rfl, rfl⟩)) <| okY rfl (LT_store (ob := ⟨31, 7, [.d (.int .i64 0), .d (.int .i64 0), .d (.int .i64 0), .d (.int .i64 0), .d (.bool false), .d (.int .i64 0), .d (.str (⟨#[]⟩))]⟩) (x := .agg [.d (.int .i64 W), .d (.int .i64 H), .d (.int .i64 C), .d (.int .i64 B), .d (.bool pl), .d (.int .i64 P), .d (.str (((O.extract 0 i.toNat) ++ (strD [oc])) ++ (O.extract (i + 1).toNat O.size)))]) rfl rfl rfl (List.Mem.head _) inf31 rfl rfl rfl (by simp [X.cells]) _ rfl) <| okE
                      change AW _ _ _ _ _ _
                      refine aw_weak (weak_of [(4, .ptr 3 0)] [(3, some ⟨31, 7, [.d (.int .i64 W), .d (.int .i64 H), .d (.int .i64 C), .d (.int .i64 B), .d (.bool pl), .d (.int .i64 P), .d (.str (((O.extract 0 i.toNat) ++ (strD [oc])) ++ (O.extract (i + 1).toNat O.size)))]⟩)] [3] (sE rfl sE0) (sH rfl sH0) (by kernel_rfl)) ?_
                      refine aw_ret ?_
                      refine fin1 (x := .agg [.d (.int .i64 W), .d (.int .i64 H), .d (.int .i64 C), .d (.int .i64 B), .d (.bool pl), .d (.int .i64 P), .d (.str (((O.extract 0 i.toNat) ++ (strD [oc])) ++ (O.extract (i + 1).toNat O.size)))]) (.inl rfl) Try.results36 ⟨3, 0, _, _, _, 7, rfl, rfl, Try.underlying31, inf31, by simp, .inl ⟨rfl, rfl, rfl⟩⟩ ?_
                      simp only [Bn.of, imX, hb1, hb2, hb3, hb4, hb5, hb6, hb7, hb8, hb9, hb10, Bool.false_eq_true, if_false, if_true, reduceIte]
                    ·
                      replace hb10 := of_decide_eq_false hb10
                      refine aw_skip ?_
                      change AW _ _ _ _ _ _
                      refine aw_weak (weak_of [(3, .ptr 2 0), (4, .ptr 3 0)] [(2, some ⟨31, 7, [.d (.int .i64 W), .d (.int .i64 H), .d (.int .i64 C), .d (.int .i64 B), .d (.bool pl), .d (.int .i64 P), .d (.str O)]⟩), (3, some ⟨31, 7, [.d (.int .i64 0), .d (.int .i64 0), .d (.int .i64 0), .d (.int .i64 0), .d (.bool false), .d (.int .i64 0), .d (.str (⟨#[]⟩))]⟩)] [2, 3] (sE rfl (sE rfl sE0)) (sH rfl (sH rfl sH0)) (by kernel_rfl)) ?_
                      refine aw_seq ?_
                      refine aw_region_seq [⟨.agg [.d (.int .i64 W), .d (.int .i64 H), .d (.int .i64 C), .d (.int .i64 B), .d (.bool pl), .d (.int .i64 P), .d (.str O)], [], [], [2]⟩, ⟨.tup [], [(3, some ⟨31, 7, [.d (.int .i64 W), .d (.int .i64 H), .d (.int .i64 C), .d (.int .i64 B), .d (.bool pl), .d (.int .i64 P), .d (.str O)]⟩)], [], [3]⟩] (by kernel_rfl) (by kernel_rfl) (fun id _ => hG id) ?_ ?_
                      · exact okY rfl (LT_load 7 rfl rfl rfl (List.Mem.head _) Try.underlying31 inf31 (by simp) (.inl ⟨rfl, rfl, rfl⟩)) <| okY rfl (LT_store (ob := ⟨31, 7, [.d (.int .i64 0), .d (.int .i64 0), .d (.int .i64 0), .d (.int .i64 0), .d (.bool false), .d (.int .i64 0), .d (.str (⟨#[]⟩))]⟩) (x := .agg [.d (.int .i64 W), .d (.int .i64 H), .d (.int .i64 C), .d (.int .i64 B), .d (.bool pl), .d (.int .i64 P), .d (.str O)]) rfl rfl rfl (List.Mem.head _) inf31 rfl rfl rfl (by simp [X.cells]) _ rfl) <| okE
                      change AW _ _ _ _ _ _
                      refine aw_weak (weak_of [(4, .ptr 3 0)] [(3, some ⟨31, 7, [.d (.int .i64 W), .d (.int .i64 H), .d (.int .i64 C), .d (.int .i64 B), .d (.bool pl), .d (.int .i64 P), .d (.str O)]⟩)] [3] (sE rfl sE0) (sH rfl sH0) (by kernel_rfl)) ?_
                      refine aw_ret ?_
                      refine fin1 (x := .agg [.d (.int .i64 W), .d (.int .i64 H), .d (.int .i64 C), .d (.int .i64 B), .d (.bool pl), .d (.int .i64 P), .d (.str O)]) (.inl rfl) Try.results36 ⟨3, 0, _, _, _, 7, rfl, rfl, Try.underlying31, inf31, by simp, .inl ⟨rfl, rfl, rfl⟩⟩ ?_
                      simp only [Bn.of, imX, hb1, hb2, hb3, hb4, hb5, hb6, hb7, hb8, hb9, hb10, Bool.false_eq_true, if_false, if_true, reduceIte]
                  ·
                    refine aw_skip ?_
                    change AW _ _ _ _ _ _
                    refine aw_weak (weak_of [(3, .ptr 2 0), (4, .ptr 3 0)] [(2, some ⟨31, 7, [.d (.int .i64 W), .d (.int .i64 H), .d (.int .i64 C), .d (.int .i64 B), .d (.bool pl), .d (.int .i64 P), .d (.str O)]⟩), (3, some ⟨31, 7, [.d (.int .i64 0), .d (.int .i64 0), .d (.int .i64 0), .d (.int .i64 0), .d (.bool false), .d (.int .i64 0), .d (.str (⟨#[]⟩))]⟩)] [2, 3] (sE rfl (sE rfl sE0)) (sH rfl (sH rfl sH0)) (by kernel_rfl)) ?_
                    refine aw_seq ?_
                    refine aw_region_seq [⟨.agg [.d (.int .i64 W), .d (.int .i64 H), .d (.int .i64 C), .d (.int .i64 B), .d (.bool pl), .d (.int .i64 P), .d (.str O)], [], [], [2]⟩, ⟨.tup [], [(3, some ⟨31, 7, [.d (.int .i64 W), .d (.int .i64 H), .d (.int .i64 C), .d (.int .i64 B), .d (.bool pl), .d (.int .i64 P), .d (.str O)]⟩)], [], [3]⟩] (by kernel_rfl) (by kernel_rfl) (fun id _ => hG id) ?_ ?_
                    · exact okY rfl (LT_load 7 rfl rfl rfl (List.Mem.head _) Try.underlying31 inf31 (by simp) (.inl ⟨rfl, rfl, rfl⟩)) <| okY rfl (LT_store (ob := ⟨31, 7, [.d (.int .i64 0), .d (.int .i64 0), .d (.int .i64 0), .d (.int .i64 0), .d (.bool false), .d (.int .i64 0), .d (.str (⟨#[]⟩))]⟩) (x := .agg [.d (.int .i64 W), .d (.int .i64 H), .d (.int .i64 C), .d (.int .i64 B), .d (.bool pl), .d (.int .i64 P), .d (.str O)]) rfl rfl rfl (List.Mem.head _) inf31 rfl rfl rfl (by simp [X.cells]) _ rfl) <| okE
                    change AW _ _ _ _ _ _
                    refine aw_weak (weak_of [(4, .ptr 3 0)] [(3, some ⟨31, 7, [.d (.int .i64 W), .d (.int .i64 H), .d (.int .i64 C), .d (.int .i64 B), .d (.bool pl), .d (.int .i64 P), .d (.str O)]⟩)] [3] (sE rfl sE0) (sH rfl sH0) (by kernel_rfl)) ?_
                    refine aw_ret ?_
                    refine fin1 (x := .agg [.d (.int .i64 W), .d (.int .i64 H), .d (.int .i64 C), .d (.int .i64 B), .d (.bool pl), .d (.int .i64 P), .d (.str O)]) (.inl rfl) Try.results36 ⟨3, 0, _, _, _, 7, rfl, rfl, Try.underlying31, inf31, by simp, .inl ⟨rfl, rfl, rfl⟩⟩ ?_
                    simp only [Bn.of, imX, hb1, hb2, hb3, hb4, hb5, hb6, hb7, hb8, hb9, Bool.false_eq_true, if_false, if_true, reduceIte]

end Go.Proofs.Ytphfbjeaklpddaa

/- Layer 42, the rows: arguments opened. -/
namespace Go.Proofs.Ytphfbjeaklpddaa
open Go.ChangeShapes Go.WideShapes Go.ChangeAt Go.RowKit

theorem take1 {cs : List Value} {k : Nat} {c : Value} (h : (cs.drop k).take 1 = [c]) : cs[k]? = some c := by
  have : ((cs.drop k).take 1)[0]? = some c := by rw [h]; rfl
  rw [List.getElem?_take_of_lt (by omega), List.getElem?_drop] at this
  simpa using this

set_option maxRecDepth 100000 in
theorem open_dr {H : Type} {enc : TypeId × Value → H} {W : World} {base base' : Nat} {r : Reach} {v : Value} {d : DataW H} {p : List MemPlace}
    (hv : Value.okWide Try.prog W r base' 24 v) (h : DataW.Trod enc Try.prog W base (fun _ => true) true 24 v d p) :
    ∃ (D : Dr) (a : Option Addr) (cap : Nat), v = D.v a cap ∧ D.ok ∧ U16s W a D.vs := by
  have hs := Try.underlying24
  obtain ⟨cs, rfl, hsz⟩ := okWide_struct hs hv
  obtain ⟨fuel, hf⟩ := h
  obtain ⟨xs, n, _, _, _, hxl, hall⟩ := DataW.trod_struct hs hf
  have hsz7 : cs.size = 7 := hsz.trans (by kernel_rfl)
  have hx7 : xs.length = 7 := hxl
  obtain ⟨x0, x1, x2, x3, x4, x5, x6, rfl⟩ : ∃ x0 x1 x2 x3 x4 x5 x6, xs = [x0, x1, x2, x3, x4, x5, x6] := by
    match xs, hx7 with
    | [x0, x1, x2, x3, x4, x5, x6], _ => exact ⟨x0, x1, x2, x3, x4, x5, x6, rfl⟩
  obtain ⟨c0, c1, c2, c3, c4, c5, c6, hcs⟩ : ∃ c0 c1 c2 c3 c4 c5 c6, cs = #[c0, c1, c2, c3, c4, c5, c6] := by
    obtain ⟨l⟩ := cs
    have hl : l.length = 7 := hsz7
    match l, hl with
    | [c0, c1, c2, c3, c4, c5, c6], _ => exact ⟨c0, c1, c2, c3, c4, c5, c6, rfl⟩
  subst hcs
  have k5 : Try.prog.cellsOf 5 = 1 := by kernel_rfl
  have k4 : Try.prog.cellsOf 4 = 1 := by kernel_rfl
  have k22 : Try.prog.cellsOf 22 = 1 := by kernel_rfl
  have k45 : Try.prog.cellsOf 45 = 1 := by kernel_rfl
  have g0 : DataW.trod enc Try.prog W base (fun _ => true) true n 5 [c0] = some x0 := by
    have h := hall 0 _ rfl
    simpa [Value.cells, k5, k4, k22] using h
  have g1 : DataW.trod enc Try.prog W base (fun _ => true) true n 5 [c1] = some x1 := by
    have h := hall 1 _ rfl
    simpa [Value.cells, k5, k4, k22] using h
  have g2 : DataW.trod enc Try.prog W base (fun _ => true) true n 5 [c2] = some x2 := by
    have h := hall 2 _ rfl
    simpa [Value.cells, k5, k4, k22] using h
  have g3 : DataW.trod enc Try.prog W base (fun _ => true) true n 5 [c3] = some x3 := by
    have h := hall 3 _ rfl
    simpa [Value.cells, k5, k4, k22] using h
  have g4 : DataW.trod enc Try.prog W base (fun _ => true) true n 4 [c4] = some x4 := by
    have h := hall 4 _ rfl
    simpa [Value.cells, k5, k4, k22] using h
  have g5 : DataW.trod enc Try.prog W base (fun _ => true) true n 4 [c5] = some x5 := by
    have h := hall 5 _ rfl
    simpa [Value.cells, k5, k4, k22] using h
  have g6 : DataW.trod enc Try.prog W base (fun _ => true) true n 22 [c6] = some x6 := by
    have h := hall 6 _ rfl
    simpa [Value.cells, k5, k4, k22] using h
  clear hall hf hv
  obtain ⟨n0, e0, -, wf0⟩ := DataW.trod_int Try.underlying5 g0
  cases e0
  have b0 := bounds_u8 wf0
  obtain ⟨n1, e1, -, wf1⟩ := DataW.trod_int Try.underlying5 g1
  cases e1
  have b1 := bounds_u8 wf1
  obtain ⟨n2, e2, -, wf2⟩ := DataW.trod_int Try.underlying5 g2
  cases e2
  have b2 := bounds_u8 wf2
  obtain ⟨n3, e3, -, wf3⟩ := DataW.trod_int Try.underlying5 g3
  cases e3
  have b3 := bounds_u8 wf3
  obtain ⟨n4, e4, -⟩ := DataW.trod_bool Try.underlying4 g4
  cases e4
  obtain ⟨n5, e5, -⟩ := DataW.trod_bool Try.underlying4 g5
  cases e5
  rcases open_ints Try.underlying22 Try.underlying45 k45 g6 with ⟨e6, -⟩ | ⟨a, len, cap, zs, e6, _, hl, hm, hz, -, hcell, hwf⟩
  · cases e6
    refine ⟨⟨n0, n1, n2, n3, n4, n5, []⟩, none, 0, rfl, ⟨b0.1, by have := b0.2; show n0 < 256; omega, b1.1, by have := b1.2; show n1 < 256; omega, b2.1, by have := b2.2; show n2 < 256; omega, b3.1, by have := b3.2; show n3 < 256; omega, by simp, Nat.zero_le _⟩, fun h => absurd rfl h⟩
  · cases e6
    rw [if_pos rfl] at hz
    have hlt : (zs.take len).length = len := by rw [List.length_take]; omega
    refine ⟨⟨n0, n1, n2, n3, n4, n5, zs.take len⟩, some a, cap, ?_, ⟨b0.1, by have := b0.2; show n0 < 256; omega, b1.1, by have := b1.2; show n1 < 256; omega, b2.1, by have := b2.2; show n2 < 256; omega, b3.1, by have := b3.2; show n3 < 256; omega, ?_, by show (zs.take len).length ≤ maxLen; omega⟩, ?_⟩
    · unfold Dr.v
      dsimp only
      rw [hlt]
    · intro v hv
      have := bounds_u16 (hwf v (List.mem_of_mem_take hv))
      omega
    · intro hne
      have hpos : 0 < zs.length := by
        rcases Nat.eq_zero_or_pos zs.length with h | h
        · exact absurd (by show zs.take len = []; rw [List.eq_nil_of_length_eq_zero h, List.take_nil]) hne
        · exact h
      obtain ⟨b, off, rfl, hc⟩ := ints_at hcell hpos
      refine ⟨b, off, rfl, fun i hi => ?_⟩
      have hi' : i < len := by rw [← hlt]; exact hi
      rw [hc i (by omega)]
      simp [List.getD, hi']

set_option maxRecDepth 100000 in
theorem open_u8x2 {H : Type} {enc : TypeId × Value → H} {W : World} {base base' : Nat} {r : Reach} {v : Value} {d : DataW H} {p : List MemPlace}
    (hv : Value.okWide Try.prog W r base' 43 v) (h : DataW.Trod enc Try.prog W base (fun _ => true) true 43 v d p) :
    ∃ n0 n1 : Int, v = .agg #[.int .u8 n0, .int .u8 n1] ∧ (0 ≤ n0 ∧ n0 < 256) ∧ (0 ≤ n1 ∧ n1 < 256) := by
  have hs := Try.underlying43
  have ke : Try.prog.cellsOf 5 = 1 := by kernel_rfl
  obtain ⟨cs, rfl, hsz⟩ : ∃ cs, v = .agg cs ∧ cs.size = Try.prog.cellsOf 43 := by
    simp only [Value.okWide, hs] at hv
    obtain ⟨cs, h1, h2, _⟩ := hv
    exact ⟨cs, h1, h2⟩
  obtain ⟨fuel, hf⟩ := h
  obtain ⟨xs, n, _, _, _, hxl, hall⟩ := DataW.trod_array hs hf
  have hszn : cs.size = 2 := hsz.trans (by kernel_rfl)
  obtain ⟨x0, x1, rfl⟩ : ∃ x0 x1, xs = [x0, x1] := by
    match xs, hxl with
    | [x0, x1], _ => exact ⟨x0, x1, rfl⟩
  obtain ⟨c0, c1, hcs⟩ : ∃ c0 c1, cs = #[c0, c1] := by
    obtain ⟨l⟩ := cs
    have hl : l.length = 2 := hszn
    match l, hl with
    | [c0, c1], _ => exact ⟨c0, c1, rfl⟩
  subst hcs
  have g0 : DataW.trod enc Try.prog W base (fun _ => true) true n 5 [c0] = some x0 := by
    have h := hall 0 (by omega)
    simpa [Value.cells, ke] using h
  obtain ⟨n0, e0, -, wf0⟩ := DataW.trod_int Try.underlying5 g0
  cases e0
  have b0 := bounds_u8 wf0
  have g1 : DataW.trod enc Try.prog W base (fun _ => true) true n 5 [c1] = some x1 := by
    have h := hall 1 (by omega)
    simpa [Value.cells, ke] using h
  obtain ⟨n1, e1, -, wf1⟩ := DataW.trod_int Try.underlying5 g1
  cases e1
  have b1 := bounds_u8 wf1
  exact ⟨n0, n1, rfl, ⟨b0.1, by omega⟩, ⟨b1.1, by omega⟩⟩

set_option maxRecDepth 100000 in
theorem open_u16x4 {H : Type} {enc : TypeId × Value → H} {W : World} {base base' : Nat} {r : Reach} {v : Value} {d : DataW H} {p : List MemPlace}
    (hv : Value.okWide Try.prog W r base' 46 v) (h : DataW.Trod enc Try.prog W base (fun _ => true) true 46 v d p) :
    ∃ n0 n1 n2 n3 : Int, v = .agg #[.int .u16 n0, .int .u16 n1, .int .u16 n2, .int .u16 n3] ∧ (0 ≤ n0 ∧ n0 < 65536) ∧ (0 ≤ n1 ∧ n1 < 65536) ∧ (0 ≤ n2 ∧ n2 < 65536) ∧ (0 ≤ n3 ∧ n3 < 65536) := by
  have hs := Try.underlying46
  have ke : Try.prog.cellsOf 45 = 1 := by kernel_rfl
  obtain ⟨cs, rfl, hsz⟩ : ∃ cs, v = .agg cs ∧ cs.size = Try.prog.cellsOf 46 := by
    simp only [Value.okWide, hs] at hv
    obtain ⟨cs, h1, h2, _⟩ := hv
    exact ⟨cs, h1, h2⟩
  obtain ⟨fuel, hf⟩ := h
  obtain ⟨xs, n, _, _, _, hxl, hall⟩ := DataW.trod_array hs hf
  have hszn : cs.size = 4 := hsz.trans (by kernel_rfl)
  obtain ⟨x0, x1, x2, x3, rfl⟩ : ∃ x0 x1 x2 x3, xs = [x0, x1, x2, x3] := by
    match xs, hxl with
    | [x0, x1, x2, x3], _ => exact ⟨x0, x1, x2, x3, rfl⟩
  obtain ⟨c0, c1, c2, c3, hcs⟩ : ∃ c0 c1 c2 c3, cs = #[c0, c1, c2, c3] := by
    obtain ⟨l⟩ := cs
    have hl : l.length = 4 := hszn
    match l, hl with
    | [c0, c1, c2, c3], _ => exact ⟨c0, c1, c2, c3, rfl⟩
  subst hcs
  have g0 : DataW.trod enc Try.prog W base (fun _ => true) true n 45 [c0] = some x0 := by
    have h := hall 0 (by omega)
    simpa [Value.cells, ke] using h
  obtain ⟨n0, e0, -, wf0⟩ := DataW.trod_int Try.underlying45 g0
  cases e0
  have b0 := bounds_u16 wf0
  have g1 : DataW.trod enc Try.prog W base (fun _ => true) true n 45 [c1] = some x1 := by
    have h := hall 1 (by omega)
    simpa [Value.cells, ke] using h
  obtain ⟨n1, e1, -, wf1⟩ := DataW.trod_int Try.underlying45 g1
  cases e1
  have b1 := bounds_u16 wf1
  have g2 : DataW.trod enc Try.prog W base (fun _ => true) true n 45 [c2] = some x2 := by
    have h := hall 2 (by omega)
    simpa [Value.cells, ke] using h
  obtain ⟨n2, e2, -, wf2⟩ := DataW.trod_int Try.underlying45 g2
  cases e2
  have b2 := bounds_u16 wf2
  have g3 : DataW.trod enc Try.prog W base (fun _ => true) true n 45 [c3] = some x3 := by
    have h := hall 3 (by omega)
    simpa [Value.cells, ke] using h
  obtain ⟨n3, e3, -, wf3⟩ := DataW.trod_int Try.underlying45 g3
  cases e3
  have b3 := bounds_u16 wf3
  exact ⟨n0, n1, n2, n3, rfl, ⟨b0.1, by omega⟩, ⟨b1.1, by omega⟩, ⟨b2.1, by omega⟩, ⟨b3.1, by omega⟩⟩

end Go.Proofs.Ytphfbjeaklpddaa

/- A law by its contract; a draft's image, in numbers. -/
namespace Go.Proofs.Ytphfbjeaklpddaa
open Go.RowKit

theorem law_calls {P : Program} {f : FuncId} {xs : List X} {vs : Array Value} {w : World} (h : PC P f xs (.d (.bool true))) (hs : vs.size = xs.length) (hv : ∀ (i : Nat) v x, vs[i]? = some v → xs[i]? = some x → RV w (fun _ => False) noRho v x) :
    Calls P f vs w fun e w' => e = .returned (.bool true) ∧ Below w.heap.size w w' := by
  refine (h w (fun _ => False) vs (fun _ h => h.elim) hs hv).mono ?_
  rintro e w' ⟨v, rfl, hr, hb⟩
  rw [hr.bool_inv]
  exact ⟨rfl, hb⟩

theorem rv0 {w : World} {M : Nat → Prop} : ∀ (i : Nat) v x, (#[] : Array Value)[i]? = some v → ([] : List X)[i]? = some x → RV w M noRho v x := fun i v x h => by simp at h
theorem rvC {w : World} {M : Nat → Prop} {u : Value} {y : X} {vs : List Value} {xs : List X} (h : RV w M noRho u y) (hr : ∀ (i : Nat) v x, vs.toArray[i]? = some v → xs[i]? = some x → RV w M noRho v x) : ∀ (i : Nat) v x, (u :: vs).toArray[i]? = some v → (y :: xs)[i]? = some x → RV w M noRho v x := fun i v x hv hx => by
  cases i with
  | zero => simp at hv hx; subst hv hx; exact h
  | succ i => exact hr i v x (by simpa using hv) (by simpa using hx)

theorem im_vB (D : Dr) (hD : D.ok) : D.im.vB = true := D.some_valid hD _ (by have := hD.c0; omega) (by have := hD.c0; omega)

/-- a draft's image, in numbers -/
theorem im_nums (D : Dr) (hD : D.ok) : ∃ (W H n : Nat) (B P0 : Int) (pl0 : Bool) (O : ByteArray), D.im = ⟨⟨W, H, n, B, pl0, P0⟩, O⟩ ∧ 1 ≤ W ∧ W ≤ 64 ∧ 1 ≤ H ∧ H ≤ 64 ∧ 1 ≤ n ∧ n ≤ 4 := by
  have hok : D.im.L.ok := Im.ok (im_vB D hD)
  obtain ⟨W, hW⟩ := Int.eq_ofNat_of_zero_le (a := D.im.L.W) (by have := hok.w1; omega)
  obtain ⟨H, hH⟩ := Int.eq_ofNat_of_zero_le (a := D.im.L.H) (by have := hok.h1; omega)
  obtain ⟨n, hn⟩ := Int.eq_ofNat_of_zero_le (a := D.im.L.C) (by have := hok.c1; omega)
  have h1 := hok.w1; have h2 := hok.w2; have h3 := hok.h1; have h4 := hok.h2; have h5 := hok.c1; have h6 := hok.c2
  refine ⟨W, H, n, D.im.L.B, D.im.L.P, D.im.L.pl, D.im.O, ?_, by omega, by omega, by omega, by omega, by omega, by omega⟩
  rw [← hW, ← hH, ← hn]

end Go.Proofs.Ytphfbjeaklpddaa

/- Layer 42: three images. -/
namespace Go.Proofs.Ytphfbjeaklpddaa
open Go.RowKit

structure Bn.ok (b : Bn) : Prop where
  wh : 0 ≤ b.wh ∧ b.wh < 256
  ap : 0 ≤ b.ap ∧ b.ap < 256
  oc : 0 ≤ b.oc ∧ b.oc < 256

def Bn.at (b : Bn) (I : Im) : Im := b.of (b.ap % ((I.O.size : Int) + 1)) I
def bnX (b : Bn) : X := .agg [.d (.int .u8 b.wh), .d (.int .u8 b.ap), .d (.int .u8 b.oc), .d (.int .i64 b.n)]

def imC3 (m J1 J2 : Im) : List X := [.d (.int .i64 m.L.W), .d (.int .i64 m.L.H), .d (.int .i64 m.L.C), .d (.int .i64 m.L.B), .d (.bool m.L.pl), .d (.int .i64 m.L.P), .d (.str m.O), .d (.int .i64 J1.L.W), .d (.int .i64 J1.L.H), .d (.int .i64 J1.L.C), .d (.int .i64 J1.L.B), .d (.bool J1.L.pl), .d (.int .i64 J1.L.P), .d (.str J1.O), .d (.int .i64 J2.L.W), .d (.int .i64 J2.L.H), .d (.int .i64 J2.L.C), .d (.int .i64 J2.L.B), .d (.bool J2.L.pl), .d (.int .i64 J2.L.P), .d (.str J2.O)]
def bnC (b0 b1 : Bn) : List X := [.d (.int .u8 b0.wh), .d (.int .u8 b0.ap), .d (.int .u8 b0.oc), .d (.int .i64 b0.n), .d (.int .u8 b1.wh), .d (.int .u8 b1.ap), .d (.int .u8 b1.oc), .d (.int .i64 b1.n)]

theorem pc_of {b : Bn} {I J : Im} (hb : b.ok) (hO : I.O.size ≤ 1000000) (h : b.at I = J) : PC Try.prog 36 [bnX b, imX I] (imX J) := by
  subst h
  exact of_core b.wh b.ap b.oc b.n I.L.W I.L.H I.L.C I.L.B I.L.P _ I.L.pl I.O hb.wh hb.ap hb.oc hO rfl (Int.emod_nonneg _ (by omega)) (by have := Int.emod_lt_of_pos b.ap (show (0 : Int) < (I.O.size : Int) + 1 by omega); omega)

theorem im_size' (D : Dr) (hD : D.ok) : D.im.O.size ≤ 200000 := by
  have hv := vB_yes (im_vB D hD)
  have h1 := D.im.L.len_bd hv.1
  have h2 := hv.2.1
  omega
theorem im_size (D : Dr) (hD : D.ok) : D.im.O.size ≤ 1000000 := by have := im_size' D hD; omega
theorem at_size (b : Bn) (I : Im) (h : I.O.size ≤ 200000) : (b.at I).O.size ≤ 1000000 := by
  unfold Bn.at Bn.of
  have hs : (strD [b.oc]).size = 1 := by simp [strD, ByteArray.size]
  repeat' split
  all_goals (try simp only [ByteArray.size_append, ByteArray.size_extract]) <;> omega

theorem pc_rcheck (I : Im) : PC Try.prog 16 [imX I] (iX (chkR I)) := PC_old rfl rfl fun w => rcheck_any I w
theorem pc_rstride (I : Im) : PC Try.prog 14 [imX I] (.tup [iX (strR I).1, iX (strR I).2]) := PC_old rfl rfl fun w => rstride2_any I w
theorem pc_rmake (W H C B : Int) (pl : Bool) (Pd : Int) : PC Try.prog 18 [iX W, iX H, iX C, iX B, .d (.bool pl), iX Pd] (.tup [imX (makR ⟨W, H, C, B, pl, Pd⟩).1, iX (makR ⟨W, H, C, B, pl, Pd⟩).2]) := PC_old rfl rfl fun w => rmake_any ⟨W, H, C, B, pl, Pd⟩ w

set_option maxRecDepth 100000 in
set_option maxHeartbeats 2000000 in
theorem three_pc (D : Dr) (hD : D.ok) (b0 b1 : Bn) (m J1 J2 : Im) (hb0 : b0.ok) (hb1 : b1.ok) (hm : D.im = m) (hJ1 : b0.at m = J1) (hJ2 : b1.at J1 = J2) : PC Try.prog 12 [.agg (drC D), .agg (bnC b0 b1)] (.agg (imC3 m J1 J2)) := by
  refine PC_of (fn := Try.f12) Try.func12 rfl (by simp [Try.ntmps12]) (by kernel_rfl) fun G hG => ?_
  rw [Try.ntmps12]
  have hs0 : m.O.size ≤ 1000000 := by rw [← hm]; exact im_size D hD
  have hs1 : J1.O.size ≤ 1000000 := by
    rw [← hJ1]
    exact at_size b0 m (by rw [← hm]; exact im_size' D hD)
  refine aw_seq ?_
  refine aw_region_seq [⟨.ptr 1 0, [(1, some ⟨24, 7, (drC D)⟩)], [1], []⟩, ⟨.ptr 2 0, [(2, some ⟨27, 8, (bnC b0 b1)⟩)], [2], []⟩, ⟨.ptr 3 0, [(3, some ⟨32, 21, [.d (.int .i64 0), .d (.int .i64 0), .d (.int .i64 0), .d (.int .i64 0), .d (.bool false), .d (.int .i64 0), .d (.str (⟨#[]⟩)), .d (.int .i64 0), .d (.int .i64 0), .d (.int .i64 0), .d (.int .i64 0), .d (.bool false), .d (.int .i64 0), .d (.str (⟨#[]⟩)), .d (.int .i64 0), .d (.int .i64 0), .d (.int .i64 0), .d (.int .i64 0), .d (.bool false), .d (.int .i64 0), .d (.str (⟨#[]⟩))]⟩)], [3], []⟩] (by kernel_rfl) (by kernel_rfl) (fun id _ => hG id) ?_ ?_
  · exact okY rfl (LT_box (x := .agg (drC D)) 1 rfl rfl rfl 7 rfl (List.Mem.head _)) <| okY rfl (LT_box (x := .agg (bnC b0 b1)) 2 rfl rfl rfl 8 rfl (List.Mem.head _)) <| okY rfl (LT_alloc 3 rfl inf32 rfl 21 rfl (List.Mem.head _)) <| okE
  change AW _ _ _ _ _ _
  refine aw_weak (weak_of [(2, .ptr 1 0), (3, .ptr 2 0), (4, .ptr 3 0)] [(1, some ⟨24, 7, (drC D)⟩), (2, some ⟨27, 8, (bnC b0 b1)⟩), (3, some ⟨32, 21, [.d (.int .i64 0), .d (.int .i64 0), .d (.int .i64 0), .d (.int .i64 0), .d (.bool false), .d (.int .i64 0), .d (.str (⟨#[]⟩)), .d (.int .i64 0), .d (.int .i64 0), .d (.int .i64 0), .d (.int .i64 0), .d (.bool false), .d (.int .i64 0), .d (.str (⟨#[]⟩)), .d (.int .i64 0), .d (.int .i64 0), .d (.int .i64 0), .d (.int .i64 0), .d (.bool false), .d (.int .i64 0), .d (.str (⟨#[]⟩))]⟩)] [1, 2, 3] (sE rfl (sE rfl (sE rfl sE0))) (sH rfl (sH rfl (sH rfl sH0))) (by kernel_rfl)) ?_
  refine aw_seq ?_
  refine aw_region_seq [⟨.agg (drC D), [], [], [1]⟩, ⟨.agg (imC m), [], [], []⟩, ⟨.ptr 4 0, [(4, some ⟨31, 7, [.d (.int .i64 0), .d (.int .i64 0), .d (.int .i64 0), .d (.int .i64 0), .d (.bool false), .d (.int .i64 0), .d (.str (⟨#[]⟩))]⟩)], [4], []⟩, ⟨.tup [], [(4, some ⟨31, 7, (imC m)⟩)], [], [4]⟩] (by kernel_rfl) (by kernel_rfl) (fun id _ => hG id) ?_ ?_
  · exact okY rfl (LT_load 7 rfl rfl rfl (List.Mem.head _) Try.underlying24 inf24 (by simp [bnC, drC, imC3, imC]) (.inl ⟨rfl, rfl, rfl⟩)) <| okY rfl (LT_call [.agg (drC D)] rfl rfl Try.call24 rfl ((pc_image' hD hm).ct rfl)) <| okY rfl (LT_alloc 4 rfl inf31 rfl 7 rfl (List.Mem.head _)) <| okY rfl (LT_store (ob := ⟨31, 7, [.d (.int .i64 0), .d (.int .i64 0), .d (.int .i64 0), .d (.int .i64 0), .d (.bool false), .d (.int .i64 0), .d (.str (⟨#[]⟩))]⟩) (x := .agg (imC m)) rfl rfl rfl (List.Mem.head _) inf31 rfl rfl rfl (by simp [X.cells, bnC, drC, imC3, imC]) _ rfl) <| okE
  change AW _ _ _ _ _ _
  refine aw_weak (weak_of [(3, .ptr 2 0), (4, .ptr 3 0), (5, .ptr 4 0)] [(2, some ⟨27, 8, (bnC b0 b1)⟩), (3, some ⟨32, 21, [.d (.int .i64 0), .d (.int .i64 0), .d (.int .i64 0), .d (.int .i64 0), .d (.bool false), .d (.int .i64 0), .d (.str (⟨#[]⟩)), .d (.int .i64 0), .d (.int .i64 0), .d (.int .i64 0), .d (.int .i64 0), .d (.bool false), .d (.int .i64 0), .d (.str (⟨#[]⟩)), .d (.int .i64 0), .d (.int .i64 0), .d (.int .i64 0), .d (.int .i64 0), .d (.bool false), .d (.int .i64 0), .d (.str (⟨#[]⟩))]⟩), (4, some ⟨31, 7, (imC m)⟩)] [2, 3, 4] (sE rfl (sE rfl (sE rfl sE0))) (sH rfl (sH rfl (sH rfl sH0))) (by kernel_rfl)) ?_
  refine aw_seq ?_
  refine aw_region_seq [⟨.ptr 2 0, [], [], []⟩, ⟨.agg [.d (.int .u8 b0.wh), .d (.int .u8 b0.ap), .d (.int .u8 b0.oc), .d (.int .i64 b0.n)], [], [], [2]⟩, ⟨.agg (imC m), [], [], [4]⟩, ⟨.agg (imC J1), [], [], []⟩, ⟨.ptr 5 0, [(5, some ⟨31, 7, [.d (.int .i64 0), .d (.int .i64 0), .d (.int .i64 0), .d (.int .i64 0), .d (.bool false), .d (.int .i64 0), .d (.str (⟨#[]⟩))]⟩)], [5], []⟩, ⟨.tup [], [(5, some ⟨31, 7, (imC J1)⟩)], [], [5]⟩] (by kernel_rfl) (by kernel_rfl) (fun id _ => hG id) ?_ ?_
  · exact okY rfl (LT_indexArr rfl rfl rfl Try.underlying27 inf26 (by decide) (by decide) _ rfl) <| okY rfl (LT_load 4 rfl rfl rfl (List.Mem.head _) Try.underlying26 inf26 (by simp [bnC, drC, imC3, imC]) (.inl ⟨rfl, rfl, rfl⟩)) <| okY rfl (LT_load 7 rfl rfl rfl (List.Mem.head _) Try.underlying31 inf31 (by simp [bnC, drC, imC3, imC]) (.inl ⟨rfl, rfl, rfl⟩)) <| okY rfl (LT_call [.agg [.d (.int .u8 b0.wh), .d (.int .u8 b0.ap), .d (.int .u8 b0.oc), .d (.int .i64 b0.n)], .agg (imC m)] rfl rfl Try.call36 rfl ((pc_of hb0 hs0 hJ1).ct rfl)) <| okY rfl (LT_alloc 5 rfl inf31 rfl 7 rfl (List.Mem.head _)) <| okY rfl (LT_store (ob := ⟨31, 7, [.d (.int .i64 0), .d (.int .i64 0), .d (.int .i64 0), .d (.int .i64 0), .d (.bool false), .d (.int .i64 0), .d (.str (⟨#[]⟩))]⟩) (x := .agg (imC J1)) rfl rfl rfl (List.Mem.head _) inf31 rfl rfl rfl (by simp [X.cells, bnC, drC, imC3, imC]) _ rfl) <| okE
  change AW _ _ _ _ _ _
  refine aw_weak (weak_of [(3, .ptr 2 0), (4, .ptr 3 0), (5, .ptr 4 0), (6, .ptr 5 0)] [(2, some ⟨27, 8, (bnC b0 b1)⟩), (3, some ⟨32, 21, [.d (.int .i64 0), .d (.int .i64 0), .d (.int .i64 0), .d (.int .i64 0), .d (.bool false), .d (.int .i64 0), .d (.str (⟨#[]⟩)), .d (.int .i64 0), .d (.int .i64 0), .d (.int .i64 0), .d (.int .i64 0), .d (.bool false), .d (.int .i64 0), .d (.str (⟨#[]⟩)), .d (.int .i64 0), .d (.int .i64 0), .d (.int .i64 0), .d (.int .i64 0), .d (.bool false), .d (.int .i64 0), .d (.str (⟨#[]⟩))]⟩), (4, some ⟨31, 7, (imC m)⟩), (5, some ⟨31, 7, (imC J1)⟩)] [2, 3, 4, 5] (sE rfl (sE rfl (sE rfl (sE rfl sE0)))) (sH rfl (sH rfl (sH rfl (sH rfl sH0)))) (by kernel_rfl)) ?_
  refine aw_seq ?_
  refine aw_region_any rfl [⟨.agg (imC m), [], [], [4]⟩, ⟨.agg (imC J1), [], [], [5]⟩, ⟨.ptr 2 4, [], [], []⟩, ⟨.agg [.d (.int .u8 b1.wh), .d (.int .u8 b1.ap), .d (.int .u8 b1.oc), .d (.int .i64 b1.n)], [], [], [2]⟩, ⟨.agg (imC J1), [], [], [5]⟩, ⟨.agg (imC J2), [], [], []⟩, ⟨.agg (imC3 m J1 J2), [], [], []⟩, ⟨.tup [], [(3, some ⟨32, 21, (imC3 m J1 J2)⟩)], [], [3]⟩] (by kernel_rfl) (by kernel_rfl) (by kernel_rfl) (fun id _ => hG id) ?_ ?_
  · exact okY rfl (LT_load 7 rfl rfl rfl (List.Mem.head _) Try.underlying31 inf31 (by simp [bnC, drC, imC3, imC]) (.inl ⟨rfl, rfl, rfl⟩)) <| okY rfl (LT_load 7 rfl rfl rfl (List.Mem.head _) Try.underlying31 inf31 (by simp [bnC, drC, imC3, imC]) (.inl ⟨rfl, rfl, rfl⟩)) <| okY rfl (LT_indexArr rfl rfl rfl Try.underlying27 inf26 (by decide) (by decide) _ rfl) <| okY rfl (LT_load 4 rfl rfl rfl (List.Mem.head _) Try.underlying26 inf26 (by simp [bnC, drC, imC3, imC]) (.inl ⟨rfl, rfl, rfl⟩)) <| okY rfl (LT_load 7 rfl rfl rfl (List.Mem.head _) Try.underlying31 inf31 (by simp [bnC, drC, imC3, imC]) (.inl ⟨rfl, rfl, rfl⟩)) <| okY rfl (LT_call [.agg [.d (.int .u8 b1.wh), .d (.int .u8 b1.ap), .d (.int .u8 b1.oc), .d (.int .i64 b1.n)], .agg (imC J1)] rfl rfl Try.call36 rfl ((pc_of hb1 hs1 hJ2).ct rfl)) <| okY rfl (LT_build (qs := [(0, .agg (imC m)), (1, .agg (imC J1)), (2, .agg (imC J2))]) (fun j => some (j * 7, 7)) rfl Try.underlying32 inf32 rfl rfl (.inr ⟨_, _, _, rfl, inf31, rfl⟩) rfl) <| okY rfl (LT_store (ob := ⟨32, 21, [.d (.int .i64 0), .d (.int .i64 0), .d (.int .i64 0), .d (.int .i64 0), .d (.bool false), .d (.int .i64 0), .d (.str (⟨#[]⟩)), .d (.int .i64 0), .d (.int .i64 0), .d (.int .i64 0), .d (.int .i64 0), .d (.bool false), .d (.int .i64 0), .d (.str (⟨#[]⟩)), .d (.int .i64 0), .d (.int .i64 0), .d (.int .i64 0), .d (.int .i64 0), .d (.bool false), .d (.int .i64 0), .d (.str (⟨#[]⟩))]⟩) (x := .agg (imC3 m J1 J2)) rfl rfl rfl (List.Mem.head _) inf32 rfl rfl rfl (by simp [X.cells, bnC, drC, imC3, imC]) _ rfl) <| okE
  change AW _ _ _ _ _ _
  refine aw_weak (weak_of [(4, .ptr 3 0)] [(3, some ⟨32, 21, (imC3 m J1 J2)⟩)] [3] (sE rfl sE0) (sH rfl sH0) (by kernel_rfl)) ?_
  refine aw_ret ?_
  refine fin1 (x := .agg (imC3 m J1 J2)) (.inl rfl) Try.results12 ⟨3, 0, _, _, _, 21, rfl, rfl, Try.underlying32, inf32, by simp [bnC, drC, imC3, imC], .inl ⟨rfl, rfl, rfl⟩⟩ ?_
  exact rfl

end Go.Proofs.Ytphfbjeaklpddaa
