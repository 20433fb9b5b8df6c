/-
  Joined texts: Layer 42: ImageTurns. · Layer 42, the rows: arguments opened. · ImageTurns answers true. No condition.
-/
import Derived.Test.YtphfbjeaklpddaaQG8
import Derived.Test.YtphfbjeaklpddaaQG7
set_option linter.unusedSimpArgs false
set_option linter.unusedVariables false

/- Layer 42: ImageTurns. -/
namespace Go.Proofs.Ytphfbjeaklpddaa
open Go.RowKit


theorem pads_le (pad : Int) : (pad % 4).toNat * 1 + 1 ≤ 4 := by omega
theorem pads_at {pad p : Int} (h0 : 0 ≤ pad) (hp : padOf pad = p) : [iX 1, iX 2, iX 4, iX 8][(pad % 4).toNat * 1]? = some (iX p) := by
  subst hp
  unfold padOf
  have h : pad % 4 = 0 ∨ pad % 4 = 1 ∨ pad % 4 = 2 ∨ pad % 4 = 3 := by omega
  rcases h with h | h | h | h <;> rw [h] <;> rfl

set_option maxRecDepth 100000 in
set_option maxHeartbeats 2000000 in
theorem turns_core (D : Dr) (hD : D.ok) (W H n : Nat) (B P0 p pad : Int) (pl0 pl : Bool) (O OS OD OF OW : ByteArray)
    (hm : D.im = ⟨⟨W, H, n, B, pl0, P0⟩, O⟩) (hpad : 0 ≤ pad ∧ pad < 256) (hp : padOf pad = p) (hW64 : W ≤ 64) (hH64 : H ≤ 64) (hn4 : n ≤ 4) (hT : Turns ⟨⟨W, H, n, B, pl0, P0⟩, O⟩ ⟨⟨W, H, n, B, pl, p⟩, OS⟩ ⟨⟨W, H, n, 16, pl, p⟩, OD⟩ ⟨⟨W, H, n, 8, pl, p⟩, OF⟩ ⟨⟨W, H, n, 16, pl, p⟩, OW⟩ pl p n W H) : PC Try.prog 6 [.agg [.d (.int .u8 D.w), .d (.int .u8 D.h), .d (.int .u8 D.c), .d (.int .u8 D.p), .d (.bool D.deep), .d (.bool D.pl), .d (.slw D.vs.length 1 (u16D D.vs))], .d (.bool pl), .d (.int .u8 pad)] (.d (.bool true)) := by
  refine PC_of (fn := Try.f6) Try.func6 rfl (by simp [Try.ntmps6]) (by kernel_rfl) fun G hG => ?_
  rw [Try.ntmps6]
  obtain ⟨hs, hsb, hsc, hd, hdb, hf, hfw, -, -, -, -, hgm, hgs, hgd, hgw, hfr, hbb⟩ := hT
  refine aw_seq ?_
  refine aw_region_seq [⟨.ptr 1 0, [(1, some ⟨24, 7, [.d (.int .u8 D.w), .d (.int .u8 D.h), .d (.int .u8 D.c), .d (.int .u8 D.p), .d (.bool D.deep), .d (.bool D.pl), .d (.slw D.vs.length 1 (u16D D.vs))]⟩)], [1], []⟩, ⟨.d (.bool false), [], [], []⟩] (by kernel_rfl) (by kernel_rfl) (fun id _ => hG id) ?_ ?_
  · exact okY rfl (LT_box (x := .agg [.d (.int .u8 D.w), .d (.int .u8 D.h), .d (.int .u8 D.c), .d (.int .u8 D.p), .d (.bool D.deep), .d (.bool D.pl), .d (.slw D.vs.length 1 (u16D D.vs))]) 1 rfl rfl rfl 7 rfl (List.Mem.head _)) <| okY rfl (LT_assign rfl rfl) <| okE
  change AW _ _ _ _ _ _
  refine aw_weak (weak_of [(1, .d (.bool pl)), (2, .d (.int .u8 pad)), (3, .ptr 1 0)] [(1, some ⟨24, 7, [.d (.int .u8 D.w), .d (.int .u8 D.h), .d (.int .u8 D.c), .d (.int .u8 D.p), .d (.bool D.deep), .d (.bool D.pl), .d (.slw D.vs.length 1 (u16D D.vs))]⟩)] [1] (sE rfl (sE rfl (sE rfl sE0))) (sH rfl sH0) (by kernel_rfl)) ?_
  refine aw_seq ?_
  refine aw_seq ?_
  refine aw_region_seq [⟨.d (.bool true), [], [], []⟩, ⟨.d (.bool false), [], [], []⟩] (by kernel_rfl) (by kernel_rfl) (fun id _ => hG id) ?_ ?_
  · exact okY rfl (LT_call [] rfl rfl Try.call11 rfl (pc_wakes.ct rfl)) <| okY rfl (LT_not rfl rfl rfl) <| okE
  change AW _ _ _ _ _ _
  refine aw_weak (weak_of [(1, .d (.bool pl)), (2, .d (.int .u8 pad)), (3, .ptr 1 0), (30, .d (.bool false))] [(1, some ⟨24, 7, [.d (.int .u8 D.w), .d (.int .u8 D.h), .d (.int .u8 D.c), .d (.int .u8 D.p), .d (.bool D.deep), .d (.bool D.pl), .d (.slw D.vs.length 1 (u16D D.vs))]⟩)] [1] (sE rfl (sE rfl (sE rfl (sE rfl sE0)))) (sH rfl sH0) (by kernel_rfl)) ?_
  refine aw_condF rfl ?_
  refine aw_skip ?_
  change AW _ _ _ _ _ _
  refine aw_weak (weak_of [(1, .d (.bool pl)), (2, .d (.int .u8 pad)), (3, .ptr 1 0)] [(1, some ⟨24, 7, [.d (.int .u8 D.w), .d (.int .u8 D.h), .d (.int .u8 D.c), .d (.int .u8 D.p), .d (.bool D.deep), .d (.bool D.pl), .d (.slw D.vs.length 1 (u16D D.vs))]⟩)] [1] (sE rfl (sE rfl (sE rfl sE0))) (sH rfl sH0) (by kernel_rfl)) ?_
  refine aw_seq ?_
  refine aw_region_seq [⟨.agg [.d (.int .u8 D.w), .d (.int .u8 D.h), .d (.int .u8 D.c), .d (.int .u8 D.p), .d (.bool D.deep), .d (.bool D.pl), .d (.slw D.vs.length 1 (u16D D.vs))], [], [], [1]⟩, ⟨.agg [.d (.int .i64 ((W : Nat) : Int)), .d (.int .i64 ((H : Nat) : Int)), .d (.int .i64 ((n : Nat) : Int)), .d (.int .i64 B), .d (.bool pl0), .d (.int .i64 P0), .d (.str O)], [], [], []⟩, ⟨.ptr 2 0, [(2, some ⟨31, 7, [.d (.int .i64 0), .d (.int .i64 0), .d (.int .i64 0), .d (.int .i64 0), .d (.bool false), .d (.int .i64 0), .d (.str (⟨#[]⟩))]⟩)], [2], []⟩, ⟨.tup [], [(2, some ⟨31, 7, [.d (.int .i64 ((W : Nat) : Int)), .d (.int .i64 ((H : Nat) : Int)), .d (.int .i64 ((n : Nat) : Int)), .d (.int .i64 B), .d (.bool pl0), .d (.int .i64 P0), .d (.str O)]⟩)], [], [2]⟩] (by kernel_rfl) (by kernel_rfl) (fun id _ => hG id) ?_ ?_
  · exact okY rfl (LT_load 7 rfl rfl rfl (List.Mem.head _) Try.underlying24 inf24 (by simp) (.inl ⟨rfl, rfl, rfl⟩)) <| okY rfl (LT_call [.agg [.d (.int .u8 D.w), .d (.int .u8 D.h), .d (.int .u8 D.c), .d (.int .u8 D.p), .d (.bool D.deep), .d (.bool D.pl), .d (.slw D.vs.length 1 (u16D D.vs))]] rfl rfl Try.call24 rfl ((pc_image' hD hm).ct rfl)) <| okY rfl (LT_alloc 2 rfl inf31 rfl 7 rfl (List.Mem.head _)) <| okY rfl (LT_store (ob := ⟨31, 7, [.d (.int .i64 0), .d (.int .i64 0), .d (.int .i64 0), .d (.int .i64 0), .d (.bool false), .d (.int .i64 0), .d (.str (⟨#[]⟩))]⟩) (x := .agg [.d (.int .i64 ((W : Nat) : Int)), .d (.int .i64 ((H : Nat) : Int)), .d (.int .i64 ((n : Nat) : Int)), .d (.int .i64 B), .d (.bool pl0), .d (.int .i64 P0), .d (.str O)]) rfl rfl rfl (List.Mem.head _) inf31 rfl rfl rfl (by simp [X.cells]) _ rfl) <| okE
  change AW _ _ _ _ _ _
  refine aw_weak (weak_of [(1, .d (.bool pl)), (2, .d (.int .u8 pad)), (7, .ptr 2 0)] [(2, some ⟨31, 7, [.d (.int .i64 ((W : Nat) : Int)), .d (.int .i64 ((H : Nat) : Int)), .d (.int .i64 ((n : Nat) : Int)), .d (.int .i64 B), .d (.bool pl0), .d (.int .i64 P0), .d (.str O)]⟩)] [2] (sE rfl (sE rfl (sE rfl sE0))) (sH rfl sH0) (by kernel_rfl)) ?_
  refine aw_seq ?_
  refine aw_region_seq [⟨.agg [.d (.int .i64 1), .d (.int .i64 2), .d (.int .i64 4), .d (.int .i64 8)], [], [], []⟩, ⟨.d (.int .u8 pad), [], [], []⟩, ⟨.d (.int .u8 (pad % 4)), [], [], []⟩, ⟨.d (.int .i64 p), [], [], []⟩, ⟨.d (.int .i64 p), [], [], []⟩] (by kernel_rfl) (by kernel_rfl) (fun id _ => hG id) ?_ ?_
  · exact okY rfl (LT_build (qs := [(0, .d (.int .i64 1)), (1, .d (.int .i64 2)), (2, .d (.int .i64 4)), (3, .d (.int .i64 8))]) (fun j => some (j * 1, 1)) rfl Try.underlying56 inf56 rfl rfl (.inr ⟨_, _, _, rfl, inf3, rfl⟩) rfl) <| okY rfl (LT_move rfl rfl) <| okY rfl (LT_rem rfl rfl rfl (by omega) (Int.tmod_eq_emod_of_nonneg (by omega))) <| okY rfl (LT_indexA rfl rfl rfl Try.underlying56 inf3 Try.underlying3 (by omega) (by omega) 1 (pads_le pad) (.inr ⟨rfl, rfl, pads_at hpad.1 hp⟩)) <| okY rfl (LT_assign rfl rfl) <| okE
  change AW _ _ _ _ _ _
  refine aw_weak (weak_of [(1, .d (.bool pl)), (7, .ptr 2 0), (8, .d (.int .i64 p))] [(2, some ⟨31, 7, [.d (.int .i64 ((W : Nat) : Int)), .d (.int .i64 ((H : Nat) : Int)), .d (.int .i64 ((n : Nat) : Int)), .d (.int .i64 B), .d (.bool pl0), .d (.int .i64 P0), .d (.str O)]⟩)] [2] (sE rfl (sE rfl (sE rfl sE0))) (sH rfl sH0) (by kernel_rfl)) ?_
  refine aw_seq ?_
  refine aw_region_seq [⟨.agg [.d (.int .i64 ((W : Nat) : Int)), .d (.int .i64 ((H : Nat) : Int)), .d (.int .i64 ((n : Nat) : Int)), .d (.int .i64 B), .d (.bool pl0), .d (.int .i64 P0), .d (.str O)], [], [], [2]⟩, ⟨.ptr 2 3, [], [], []⟩, ⟨.d (.int .i64 B), [], [], [2]⟩, ⟨.d (.bool pl), [], [], []⟩, ⟨.d (.int .i64 p), [], [], []⟩, ⟨.tup [.agg [.d (.int .i64 ((W : Nat) : Int)), .d (.int .i64 ((H : Nat) : Int)), .d (.int .i64 ((n : Nat) : Int)), .d (.int .i64 B), .d (.bool pl), .d (.int .i64 p), .d (.str OS)], .d (.int .i64 0)], [], [], []⟩, ⟨.tup [.agg [.d (.int .i64 ((W : Nat) : Int)), .d (.int .i64 ((H : Nat) : Int)), .d (.int .i64 ((n : Nat) : Int)), .d (.int .i64 B), .d (.bool pl), .d (.int .i64 p), .d (.str OS)], .d (.int .i64 0)], [], [], []⟩, ⟨.agg [.d (.int .i64 ((W : Nat) : Int)), .d (.int .i64 ((H : Nat) : Int)), .d (.int .i64 ((n : Nat) : Int)), .d (.int .i64 B), .d (.bool pl), .d (.int .i64 p), .d (.str OS)], [], [], []⟩, ⟨.d (.int .i64 0), [], [], []⟩, ⟨.ptr 3 0, [(3, some ⟨31, 7, [.d (.int .i64 0), .d (.int .i64 0), .d (.int .i64 0), .d (.int .i64 0), .d (.bool false), .d (.int .i64 0), .d (.str (⟨#[]⟩))]⟩)], [3], []⟩, ⟨.tup [], [(3, some ⟨31, 7, [.d (.int .i64 ((W : Nat) : Int)), .d (.int .i64 ((H : Nat) : Int)), .d (.int .i64 ((n : Nat) : Int)), .d (.int .i64 B), .d (.bool pl), .d (.int .i64 p), .d (.str OS)]⟩)], [], [3]⟩, ⟨.d (.int .i64 0), [], [], []⟩] (by kernel_rfl) (by kernel_rfl) (fun id _ => hG id) ?_ ?_
  · exact okY rfl (LT_load 7 rfl rfl rfl (List.Mem.head _) Try.underlying31 inf31 (by simp) (.inl ⟨rfl, rfl, rfl⟩)) <| okY rfl (LT_fieldAddr rfl rfl Try.underlying31 rfl inf3 (by decide) _ rfl) <| okY rfl (LT_load 1 rfl rfl rfl (List.Mem.head _) Try.underlying3 inf3 (by simp) (.inr ⟨rfl, rfl, rfl⟩)) <| okY rfl (LT_move rfl rfl) <| okY rfl (LT_move rfl rfl) <| okY rfl (LT_call [.agg [.d (.int .i64 ((W : Nat) : Int)), .d (.int .i64 ((H : Nat) : Int)), .d (.int .i64 ((n : Nat) : Int)), .d (.int .i64 B), .d (.bool pl0), .d (.int .i64 P0), .d (.str O)], .d (.int .i64 B), .d (.bool pl), .d (.int .i64 p)] rfl rfl Try.call25 rfl ((pc_shape' hs).ct rfl)) <| okY rfl (LT_move rfl rfl) <| okY rfl (LT_extract rfl rfl rfl) <| okY rfl (LT_extract rfl rfl rfl) <| okY rfl (LT_alloc 3 rfl inf31 rfl 7 rfl (List.Mem.head _)) <| okY rfl (LT_store (ob := ⟨31, 7, [.d (.int .i64 0), .d (.int .i64 0), .d (.int .i64 0), .d (.int .i64 0), .d (.bool false), .d (.int .i64 0), .d (.str (⟨#[]⟩))]⟩) (x := .agg [.d (.int .i64 ((W : Nat) : Int)), .d (.int .i64 ((H : Nat) : Int)), .d (.int .i64 ((n : Nat) : Int)), .d (.int .i64 B), .d (.bool pl), .d (.int .i64 p), .d (.str OS)]) rfl rfl rfl (List.Mem.head _) inf31 rfl rfl rfl (by simp [X.cells]) _ rfl) <| okY rfl (LT_assign rfl rfl) <| okE
  change AW _ _ _ _ _ _
  refine aw_weak (weak_of [(1, .d (.bool pl)), (7, .ptr 2 0), (8, .d (.int .i64 p)), (9, .ptr 3 0), (10, .d (.int .i64 0))] [(2, some ⟨31, 7, [.d (.int .i64 ((W : Nat) : Int)), .d (.int .i64 ((H : Nat) : Int)), .d (.int .i64 ((n : Nat) : Int)), .d (.int .i64 B), .d (.bool pl0), .d (.int .i64 P0), .d (.str O)]⟩), (3, some ⟨31, 7, [.d (.int .i64 ((W : Nat) : Int)), .d (.int .i64 ((H : Nat) : Int)), .d (.int .i64 ((n : Nat) : Int)), .d (.int .i64 B), .d (.bool pl), .d (.int .i64 p), .d (.str OS)]⟩)] [2, 3] (sE rfl (sE rfl (sE rfl (sE rfl (sE rfl sE0))))) (sH rfl (sH rfl sH0)) (by kernel_rfl)) ?_
  refine aw_seq ?_
  refine aw_region_seq [⟨.agg [.d (.int .i64 ((W : Nat) : Int)), .d (.int .i64 ((H : Nat) : Int)), .d (.int .i64 ((n : Nat) : Int)), .d (.int .i64 B), .d (.bool pl), .d (.int .i64 p), .d (.str OS)], [], [], [3]⟩, ⟨.ptr 2 3, [], [], []⟩, ⟨.d (.int .i64 B), [], [], [2]⟩, ⟨.ptr 2 4, [], [], []⟩, ⟨.d (.bool pl0), [], [], [2]⟩, ⟨.ptr 2 5, [], [], []⟩, ⟨.d (.int .i64 P0), [], [], [2]⟩, ⟨.tup [.agg [.d (.int .i64 ((W : Nat) : Int)), .d (.int .i64 ((H : Nat) : Int)), .d (.int .i64 ((n : Nat) : Int)), .d (.int .i64 B), .d (.bool pl0), .d (.int .i64 P0), .d (.str O)], .d (.int .i64 0)], [], [], []⟩, ⟨.tup [.agg [.d (.int .i64 ((W : Nat) : Int)), .d (.int .i64 ((H : Nat) : Int)), .d (.int .i64 ((n : Nat) : Int)), .d (.int .i64 B), .d (.bool pl0), .d (.int .i64 P0), .d (.str O)], .d (.int .i64 0)], [], [], []⟩, ⟨.agg [.d (.int .i64 ((W : Nat) : Int)), .d (.int .i64 ((H : Nat) : Int)), .d (.int .i64 ((n : Nat) : Int)), .d (.int .i64 B), .d (.bool pl0), .d (.int .i64 P0), .d (.str O)], [], [], []⟩, ⟨.d (.int .i64 0), [], [], []⟩, ⟨.ptr 4 0, [(4, some ⟨31, 7, [.d (.int .i64 0), .d (.int .i64 0), .d (.int .i64 0), .d (.int .i64 0), .d (.bool false), .d (.int .i64 0), .d (.str (⟨#[]⟩))]⟩)], [4], []⟩, ⟨.tup [], [(4, some ⟨31, 7, [.d (.int .i64 ((W : Nat) : Int)), .d (.int .i64 ((H : Nat) : Int)), .d (.int .i64 ((n : Nat) : Int)), .d (.int .i64 B), .d (.bool pl0), .d (.int .i64 P0), .d (.str O)]⟩)], [], [4]⟩, ⟨.d (.int .i64 0), [], [], []⟩] (by kernel_rfl) (by kernel_rfl) (fun id _ => hG id) ?_ ?_
  · exact okY rfl (LT_load 7 rfl rfl rfl (List.Mem.head _) Try.underlying31 inf31 (by simp) (.inl ⟨rfl, rfl, rfl⟩)) <| okY rfl (LT_fieldAddr rfl rfl Try.underlying31 rfl inf3 (by decide) _ rfl) <| okY rfl (LT_load 1 rfl rfl rfl (List.Mem.head _) Try.underlying3 inf3 (by simp) (.inr ⟨rfl, rfl, rfl⟩)) <| okY rfl (LT_fieldAddr rfl rfl Try.underlying31 rfl inf4 (by decide) _ rfl) <| okY rfl (LT_load 1 rfl rfl rfl (List.Mem.head _) Try.underlying4 inf4 (by simp) (.inr ⟨rfl, rfl, rfl⟩)) <| okY rfl (LT_fieldAddr rfl rfl Try.underlying31 rfl inf3 (by decide) _ rfl) <| okY rfl (LT_load 1 rfl rfl rfl (List.Mem.head _) Try.underlying3 inf3 (by simp) (.inr ⟨rfl, rfl, rfl⟩)) <| okY rfl (LT_call [.agg [.d (.int .i64 ((W : Nat) : Int)), .d (.int .i64 ((H : Nat) : Int)), .d (.int .i64 ((n : Nat) : Int)), .d (.int .i64 B), .d (.bool pl), .d (.int .i64 p), .d (.str OS)], .d (.int .i64 B), .d (.bool pl0), .d (.int .i64 P0)] rfl rfl Try.call25 rfl ((pc_shape' hsb).ct rfl)) <| okY rfl (LT_move rfl rfl) <| okY rfl (LT_extract rfl rfl rfl) <| okY rfl (LT_extract rfl rfl rfl) <| okY rfl (LT_alloc 4 rfl inf31 rfl 7 rfl (List.Mem.head _)) <| okY rfl (LT_store (ob := ⟨31, 7, [.d (.int .i64 0), .d (.int .i64 0), .d (.int .i64 0), .d (.int .i64 0), .d (.bool false), .d (.int .i64 0), .d (.str (⟨#[]⟩))]⟩) (x := .agg [.d (.int .i64 ((W : Nat) : Int)), .d (.int .i64 ((H : Nat) : Int)), .d (.int .i64 ((n : Nat) : Int)), .d (.int .i64 B), .d (.bool pl0), .d (.int .i64 P0), .d (.str O)]) rfl rfl rfl (List.Mem.head _) inf31 rfl rfl rfl (by simp [X.cells]) _ rfl) <| okY rfl (LT_assign rfl rfl) <| okE
  change AW _ _ _ _ _ _
  refine aw_weak (weak_of [(1, .d (.bool pl)), (7, .ptr 2 0), (8, .d (.int .i64 p)), (9, .ptr 3 0), (10, .d (.int .i64 0)), (11, .ptr 4 0), (12, .d (.int .i64 0))] [(2, some ⟨31, 7, [.d (.int .i64 ((W : Nat) : Int)), .d (.int .i64 ((H : Nat) : Int)), .d (.int .i64 ((n : Nat) : Int)), .d (.int .i64 B), .d (.bool pl0), .d (.int .i64 P0), .d (.str O)]⟩), (3, some ⟨31, 7, [.d (.int .i64 ((W : Nat) : Int)), .d (.int .i64 ((H : Nat) : Int)), .d (.int .i64 ((n : Nat) : Int)), .d (.int .i64 B), .d (.bool pl), .d (.int .i64 p), .d (.str OS)]⟩), (4, some ⟨31, 7, [.d (.int .i64 ((W : Nat) : Int)), .d (.int .i64 ((H : Nat) : Int)), .d (.int .i64 ((n : Nat) : Int)), .d (.int .i64 B), .d (.bool pl0), .d (.int .i64 P0), .d (.str O)]⟩)] [2, 3, 4] (sE rfl (sE rfl (sE rfl (sE rfl (sE rfl (sE rfl (sE rfl sE0))))))) (sH rfl (sH rfl (sH rfl sH0))) (by kernel_rfl)) ?_
  refine aw_seq ?_
  refine aw_seq ?_
  refine aw_region_seq [⟨.d (.int .i64 0), [], [], []⟩, ⟨.d (.bool false), [], [], []⟩, ⟨.d (.bool false), [], [], []⟩, ⟨.d (.int .i64 0), [], [], []⟩, ⟨.d (.bool false), [], [], []⟩, ⟨.d (.bool false), [], [], []⟩, ⟨.d (.bool false), [], [], []⟩, ⟨.agg [.d (.int .i64 ((W : Nat) : Int)), .d (.int .i64 ((H : Nat) : Int)), .d (.int .i64 ((n : Nat) : Int)), .d (.int .i64 B), .d (.bool pl), .d (.int .i64 p), .d (.str OS)], [], [], [3]⟩, ⟨.d (.int .i64 0), [], [], []⟩, ⟨.d (.bool false), [], [], []⟩, ⟨.d (.bool false), [], [], []⟩, ⟨.d (.bool false), [], [], []⟩, ⟨.agg [.d (.int .i64 ((W : Nat) : Int)), .d (.int .i64 ((H : Nat) : Int)), .d (.int .i64 ((n : Nat) : Int)), .d (.int .i64 B), .d (.bool pl0), .d (.int .i64 P0), .d (.str O)], [], [], [2]⟩, ⟨.agg [.d (.int .i64 ((W : Nat) : Int)), .d (.int .i64 ((H : Nat) : Int)), .d (.int .i64 ((n : Nat) : Int)), .d (.int .i64 B), .d (.bool pl), .d (.int .i64 p), .d (.str OS)], [], [], [3]⟩, ⟨.d (.bool true), [], [], []⟩, ⟨.d (.bool false), [], [], []⟩, ⟨.d (.bool false), [], [], []⟩, ⟨.d (.bool false), [], [], []⟩, ⟨.agg [.d (.int .i64 ((W : Nat) : Int)), .d (.int .i64 ((H : Nat) : Int)), .d (.int .i64 ((n : Nat) : Int)), .d (.int .i64 B), .d (.bool pl0), .d (.int .i64 P0), .d (.str O)], [], [], [4]⟩, ⟨.agg [.d (.int .i64 ((W : Nat) : Int)), .d (.int .i64 ((H : Nat) : Int)), .d (.int .i64 ((n : Nat) : Int)), .d (.int .i64 B), .d (.bool pl0), .d (.int .i64 P0), .d (.str O)], [], [], [2]⟩, ⟨.d (.bool false), [], [], []⟩, ⟨.d (.bool false), [], [], []⟩] (by kernel_rfl) (by kernel_rfl) (fun id _ => hG id) ?_ ?_
  · exact okY rfl (LT_move rfl rfl) <| okY rfl (LT_cmp rfl rfl rfl rfl rfl) <| okY rfl (LT_move rfl rfl) <| okY rfl (LT_move rfl rfl) <| okY rfl (LT_cmp rfl rfl rfl rfl rfl) <| okY rfl (LT_pick rfl rfl (fun h => by cases h) (fun _ _ _ _ _ h => h)) <| okY rfl (LT_move rfl rfl) <| okY rfl (LT_load 7 rfl rfl rfl (List.Mem.head _) Try.underlying31 inf31 (by simp) (.inl ⟨rfl, rfl, rfl⟩)) <| okY rfl (LT_call [.agg [.d (.int .i64 ((W : Nat) : Int)), .d (.int .i64 ((H : Nat) : Int)), .d (.int .i64 ((n : Nat) : Int)), .d (.int .i64 B), .d (.bool pl), .d (.int .i64 p), .d (.str OS)]] rfl rfl Try.call15 rfl ((pc_check' hsc).ct rfl)) <| okY rfl (LT_cmp rfl rfl rfl rfl rfl) <| okY rfl (LT_pick rfl rfl (fun h => by cases h) (fun _ _ _ _ _ h => h)) <| okY rfl (LT_move rfl rfl) <| okY rfl (LT_load 7 rfl rfl rfl (List.Mem.head _) Try.underlying31 inf31 (by simp) (.inl ⟨rfl, rfl, rfl⟩)) <| okY rfl (LT_load 7 rfl rfl rfl (List.Mem.head _) Try.underlying31 inf31 (by simp) (.inl ⟨rfl, rfl, rfl⟩)) <| okY rfl (LT_call [.agg [.d (.int .i64 ((W : Nat) : Int)), .d (.int .i64 ((H : Nat) : Int)), .d (.int .i64 ((n : Nat) : Int)), .d (.int .i64 B), .d (.bool pl0), .d (.int .i64 P0), .d (.str O)], .agg [.d (.int .i64 ((W : Nat) : Int)), .d (.int .i64 ((H : Nat) : Int)), .d (.int .i64 ((n : Nat) : Int)), .d (.int .i64 B), .d (.bool pl), .d (.int .i64 p), .d (.str OS)]] rfl rfl Try.call26 rfl ((alike_pc W H n _ _ _ _ _ _ _ _ (row0 ⟨⟨W, H, n, B, pl0, P0⟩, O⟩ n) hW64 hH64 hn4 (row0_len _ n) hgm hgs).ct rfl)) <| okY rfl (LT_not rfl rfl rfl) <| okY rfl (LT_pick rfl rfl (fun h => by cases h) (fun _ _ _ _ _ h => h)) <| okY rfl (LT_move rfl rfl) <| okY rfl (LT_load 7 rfl rfl rfl (List.Mem.head _) Try.underlying31 inf31 (by simp) (.inl ⟨rfl, rfl, rfl⟩)) <| okY rfl (LT_load 7 rfl rfl rfl (List.Mem.head _) Try.underlying31 inf31 (by simp) (.inl ⟨rfl, rfl, rfl⟩)) <| okY rfl (LT_binX rfl rfl rfl rfl rfl rfl (neq_same ⟨⟨W, H, n, B, pl0, P0⟩, O⟩).1 (neq_same ⟨⟨W, H, n, B, pl0, P0⟩, O⟩).2) <| okY rfl (LT_pick rfl rfl (fun h => by cases h) (fun _ _ _ _ _ h => h)) <| okE
  change AW _ _ _ _ _ _
  refine aw_weak (weak_of [(1, .d (.bool pl)), (7, .ptr 2 0), (8, .d (.int .i64 p)), (78, .d (.bool false))] [(2, some ⟨31, 7, [.d (.int .i64 ((W : Nat) : Int)), .d (.int .i64 ((H : Nat) : Int)), .d (.int .i64 ((n : Nat) : Int)), .d (.int .i64 B), .d (.bool pl0), .d (.int .i64 P0), .d (.str O)]⟩)] [2] (sE rfl (sE rfl (sE rfl (sE rfl sE0)))) (sH rfl sH0) (by kernel_rfl)) ?_
  refine aw_condF rfl ?_
  refine aw_skip ?_
  change AW _ _ _ _ _ _
  refine aw_weak (weak_of [(1, .d (.bool pl)), (7, .ptr 2 0), (8, .d (.int .i64 p))] [(2, some ⟨31, 7, [.d (.int .i64 ((W : Nat) : Int)), .d (.int .i64 ((H : Nat) : Int)), .d (.int .i64 ((n : Nat) : Int)), .d (.int .i64 B), .d (.bool pl0), .d (.int .i64 P0), .d (.str O)]⟩)] [2] (sE rfl (sE rfl (sE rfl sE0))) (sH rfl sH0) (by kernel_rfl)) ?_
  refine aw_seq ?_
  refine aw_region_seq [⟨.agg [.d (.int .i64 ((W : Nat) : Int)), .d (.int .i64 ((H : Nat) : Int)), .d (.int .i64 ((n : Nat) : Int)), .d (.int .i64 B), .d (.bool pl0), .d (.int .i64 P0), .d (.str O)], [], [], [2]⟩, ⟨.d (.bool pl), [], [], []⟩, ⟨.d (.int .i64 p), [], [], []⟩, ⟨.tup [.agg [.d (.int .i64 ((W : Nat) : Int)), .d (.int .i64 ((H : Nat) : Int)), .d (.int .i64 ((n : Nat) : Int)), .d (.int .i64 16), .d (.bool pl), .d (.int .i64 p), .d (.str OD)], .d (.int .i64 0)], [], [], []⟩, ⟨.tup [.agg [.d (.int .i64 ((W : Nat) : Int)), .d (.int .i64 ((H : Nat) : Int)), .d (.int .i64 ((n : Nat) : Int)), .d (.int .i64 16), .d (.bool pl), .d (.int .i64 p), .d (.str OD)], .d (.int .i64 0)], [], [], []⟩, ⟨.agg [.d (.int .i64 ((W : Nat) : Int)), .d (.int .i64 ((H : Nat) : Int)), .d (.int .i64 ((n : Nat) : Int)), .d (.int .i64 16), .d (.bool pl), .d (.int .i64 p), .d (.str OD)], [], [], []⟩, ⟨.d (.int .i64 0), [], [], []⟩, ⟨.ptr 5 0, [(5, some ⟨31, 7, [.d (.int .i64 0), .d (.int .i64 0), .d (.int .i64 0), .d (.int .i64 0), .d (.bool false), .d (.int .i64 0), .d (.str (⟨#[]⟩))]⟩)], [5], []⟩, ⟨.tup [], [(5, some ⟨31, 7, [.d (.int .i64 ((W : Nat) : Int)), .d (.int .i64 ((H : Nat) : Int)), .d (.int .i64 ((n : Nat) : Int)), .d (.int .i64 16), .d (.bool pl), .d (.int .i64 p), .d (.str OD)]⟩)], [], [5]⟩, ⟨.d (.int .i64 0), [], [], []⟩] (by kernel_rfl) (by kernel_rfl) (fun id _ => hG id) ?_ ?_
  · exact okY rfl (LT_load 7 rfl rfl rfl (List.Mem.head _) Try.underlying31 inf31 (by simp) (.inl ⟨rfl, rfl, rfl⟩)) <| okY rfl (LT_move rfl rfl) <| okY rfl (LT_move rfl rfl) <| okY rfl (LT_call [.agg [.d (.int .i64 ((W : Nat) : Int)), .d (.int .i64 ((H : Nat) : Int)), .d (.int .i64 ((n : Nat) : Int)), .d (.int .i64 B), .d (.bool pl0), .d (.int .i64 P0), .d (.str O)], .d (.int .i64 16), .d (.bool pl), .d (.int .i64 p)] rfl rfl Try.call25 rfl ((pc_shape' hd).ct rfl)) <| okY rfl (LT_move rfl rfl) <| okY rfl (LT_extract rfl rfl rfl) <| okY rfl (LT_extract rfl rfl rfl) <| okY rfl (LT_alloc 5 rfl inf31 rfl 7 rfl (List.Mem.head _)) <| okY rfl (LT_store (ob := ⟨31, 7, [.d (.int .i64 0), .d (.int .i64 0), .d (.int .i64 0), .d (.int .i64 0), .d (.bool false), .d (.int .i64 0), .d (.str (⟨#[]⟩))]⟩) (x := .agg [.d (.int .i64 ((W : Nat) : Int)), .d (.int .i64 ((H : Nat) : Int)), .d (.int .i64 ((n : Nat) : Int)), .d (.int .i64 16), .d (.bool pl), .d (.int .i64 p), .d (.str OD)]) rfl rfl rfl (List.Mem.head _) inf31 rfl rfl rfl (by simp [X.cells]) _ rfl) <| okY rfl (LT_assign rfl rfl) <| okE
  change AW _ _ _ _ _ _
  refine aw_weak (weak_of [(1, .d (.bool pl)), (7, .ptr 2 0), (8, .d (.int .i64 p)), (13, .ptr 5 0), (14, .d (.int .i64 0))] [(2, some ⟨31, 7, [.d (.int .i64 ((W : Nat) : Int)), .d (.int .i64 ((H : Nat) : Int)), .d (.int .i64 ((n : Nat) : Int)), .d (.int .i64 B), .d (.bool pl0), .d (.int .i64 P0), .d (.str O)]⟩), (5, some ⟨31, 7, [.d (.int .i64 ((W : Nat) : Int)), .d (.int .i64 ((H : Nat) : Int)), .d (.int .i64 ((n : Nat) : Int)), .d (.int .i64 16), .d (.bool pl), .d (.int .i64 p), .d (.str OD)]⟩)] [2, 5] (sE rfl (sE rfl (sE rfl (sE rfl (sE rfl sE0))))) (sH rfl (sH rfl sH0)) (by kernel_rfl)) ?_
  refine aw_seq ?_
  refine aw_region_seq [⟨.agg [.d (.int .i64 ((W : Nat) : Int)), .d (.int .i64 ((H : Nat) : Int)), .d (.int .i64 ((n : Nat) : Int)), .d (.int .i64 B), .d (.bool pl0), .d (.int .i64 P0), .d (.str O)], [], [], [2]⟩, ⟨.d (.bool pl), [], [], []⟩, ⟨.d (.int .i64 p), [], [], []⟩, ⟨.tup [.agg [.d (.int .i64 ((W : Nat) : Int)), .d (.int .i64 ((H : Nat) : Int)), .d (.int .i64 ((n : Nat) : Int)), .d (.int .i64 8), .d (.bool pl), .d (.int .i64 p), .d (.str OF)], .d (.int .i64 0)], [], [], []⟩, ⟨.tup [.agg [.d (.int .i64 ((W : Nat) : Int)), .d (.int .i64 ((H : Nat) : Int)), .d (.int .i64 ((n : Nat) : Int)), .d (.int .i64 8), .d (.bool pl), .d (.int .i64 p), .d (.str OF)], .d (.int .i64 0)], [], [], []⟩, ⟨.agg [.d (.int .i64 ((W : Nat) : Int)), .d (.int .i64 ((H : Nat) : Int)), .d (.int .i64 ((n : Nat) : Int)), .d (.int .i64 8), .d (.bool pl), .d (.int .i64 p), .d (.str OF)], [], [], []⟩, ⟨.d (.int .i64 0), [], [], []⟩, ⟨.ptr 6 0, [(6, some ⟨31, 7, [.d (.int .i64 0), .d (.int .i64 0), .d (.int .i64 0), .d (.int .i64 0), .d (.bool false), .d (.int .i64 0), .d (.str (⟨#[]⟩))]⟩)], [6], []⟩, ⟨.tup [], [(6, some ⟨31, 7, [.d (.int .i64 ((W : Nat) : Int)), .d (.int .i64 ((H : Nat) : Int)), .d (.int .i64 ((n : Nat) : Int)), .d (.int .i64 8), .d (.bool pl), .d (.int .i64 p), .d (.str OF)]⟩)], [], [6]⟩, ⟨.d (.int .i64 0), [], [], []⟩] (by kernel_rfl) (by kernel_rfl) (fun id _ => hG id) ?_ ?_
  · exact okY rfl (LT_load 7 rfl rfl rfl (List.Mem.head _) Try.underlying31 inf31 (by simp) (.inl ⟨rfl, rfl, rfl⟩)) <| okY rfl (LT_move rfl rfl) <| okY rfl (LT_move rfl rfl) <| okY rfl (LT_call [.agg [.d (.int .i64 ((W : Nat) : Int)), .d (.int .i64 ((H : Nat) : Int)), .d (.int .i64 ((n : Nat) : Int)), .d (.int .i64 B), .d (.bool pl0), .d (.int .i64 P0), .d (.str O)], .d (.int .i64 8), .d (.bool pl), .d (.int .i64 p)] rfl rfl Try.call25 rfl ((pc_shape' hf).ct rfl)) <| okY rfl (LT_move rfl rfl) <| okY rfl (LT_extract rfl rfl rfl) <| okY rfl (LT_extract rfl rfl rfl) <| okY rfl (LT_alloc 6 rfl inf31 rfl 7 rfl (List.Mem.head _)) <| okY rfl (LT_store (ob := ⟨31, 7, [.d (.int .i64 0), .d (.int .i64 0), .d (.int .i64 0), .d (.int .i64 0), .d (.bool false), .d (.int .i64 0), .d (.str (⟨#[]⟩))]⟩) (x := .agg [.d (.int .i64 ((W : Nat) : Int)), .d (.int .i64 ((H : Nat) : Int)), .d (.int .i64 ((n : Nat) : Int)), .d (.int .i64 8), .d (.bool pl), .d (.int .i64 p), .d (.str OF)]) rfl rfl rfl (List.Mem.head _) inf31 rfl rfl rfl (by simp [X.cells]) _ rfl) <| okY rfl (LT_assign rfl rfl) <| okE
  change AW _ _ _ _ _ _
  refine aw_weak (weak_of [(1, .d (.bool pl)), (7, .ptr 2 0), (8, .d (.int .i64 p)), (13, .ptr 5 0), (14, .d (.int .i64 0)), (15, .ptr 6 0), (16, .d (.int .i64 0))] [(2, some ⟨31, 7, [.d (.int .i64 ((W : Nat) : Int)), .d (.int .i64 ((H : Nat) : Int)), .d (.int .i64 ((n : Nat) : Int)), .d (.int .i64 B), .d (.bool pl0), .d (.int .i64 P0), .d (.str O)]⟩), (5, some ⟨31, 7, [.d (.int .i64 ((W : Nat) : Int)), .d (.int .i64 ((H : Nat) : Int)), .d (.int .i64 ((n : Nat) : Int)), .d (.int .i64 16), .d (.bool pl), .d (.int .i64 p), .d (.str OD)]⟩), (6, some ⟨31, 7, [.d (.int .i64 ((W : Nat) : Int)), .d (.int .i64 ((H : Nat) : Int)), .d (.int .i64 ((n : Nat) : Int)), .d (.int .i64 8), .d (.bool pl), .d (.int .i64 p), .d (.str OF)]⟩)] [2, 5, 6] (sE rfl (sE rfl (sE rfl (sE rfl (sE rfl (sE rfl (sE rfl sE0))))))) (sH rfl (sH rfl (sH rfl sH0))) (by kernel_rfl)) ?_
  refine aw_seq ?_
  refine aw_seq ?_
  refine aw_region_seq [⟨.d (.int .i64 0), [], [], []⟩, ⟨.d (.bool false), [], [], []⟩, ⟨.d (.bool false), [], [], []⟩, ⟨.d (.int .i64 0), [], [], []⟩, ⟨.d (.bool false), [], [], []⟩, ⟨.d (.bool false), [], [], []⟩] (by kernel_rfl) (by kernel_rfl) (fun id _ => hG id) ?_ ?_
  · exact okY rfl (LT_move rfl rfl) <| okY rfl (LT_cmp rfl rfl rfl rfl rfl) <| okY rfl (LT_move rfl rfl) <| okY rfl (LT_move rfl rfl) <| okY rfl (LT_cmp rfl rfl rfl rfl rfl) <| okY rfl (LT_pick rfl rfl (fun h => by cases h) (fun _ _ _ _ _ h => h)) <| okE
  change AW _ _ _ _ _ _
  refine aw_weak (weak_of [(1, .d (.bool pl)), (7, .ptr 2 0), (8, .d (.int .i64 p)), (13, .ptr 5 0), (15, .ptr 6 0), (98, .d (.bool false))] [(2, some ⟨31, 7, [.d (.int .i64 ((W : Nat) : Int)), .d (.int .i64 ((H : Nat) : Int)), .d (.int .i64 ((n : Nat) : Int)), .d (.int .i64 B), .d (.bool pl0), .d (.int .i64 P0), .d (.str O)]⟩), (5, some ⟨31, 7, [.d (.int .i64 ((W : Nat) : Int)), .d (.int .i64 ((H : Nat) : Int)), .d (.int .i64 ((n : Nat) : Int)), .d (.int .i64 16), .d (.bool pl), .d (.int .i64 p), .d (.str OD)]⟩), (6, some ⟨31, 7, [.d (.int .i64 ((W : Nat) : Int)), .d (.int .i64 ((H : Nat) : Int)), .d (.int .i64 ((n : Nat) : Int)), .d (.int .i64 8), .d (.bool pl), .d (.int .i64 p), .d (.str OF)]⟩)] [2, 5, 6] (sE rfl (sE rfl (sE rfl (sE rfl (sE rfl (sE rfl sE0)))))) (sH rfl (sH rfl (sH rfl sH0))) (by kernel_rfl)) ?_
  refine aw_condF rfl ?_
  refine aw_skip ?_
  change AW _ _ _ _ _ _
  refine aw_weak (weak_of [(1, .d (.bool pl)), (7, .ptr 2 0), (8, .d (.int .i64 p)), (13, .ptr 5 0), (15, .ptr 6 0)] [(2, some ⟨31, 7, [.d (.int .i64 ((W : Nat) : Int)), .d (.int .i64 ((H : Nat) : Int)), .d (.int .i64 ((n : Nat) : Int)), .d (.int .i64 B), .d (.bool pl0), .d (.int .i64 P0), .d (.str O)]⟩), (5, some ⟨31, 7, [.d (.int .i64 ((W : Nat) : Int)), .d (.int .i64 ((H : Nat) : Int)), .d (.int .i64 ((n : Nat) : Int)), .d (.int .i64 16), .d (.bool pl), .d (.int .i64 p), .d (.str OD)]⟩), (6, some ⟨31, 7, [.d (.int .i64 ((W : Nat) : Int)), .d (.int .i64 ((H : Nat) : Int)), .d (.int .i64 ((n : Nat) : Int)), .d (.int .i64 8), .d (.bool pl), .d (.int .i64 p), .d (.str OF)]⟩)] [2, 5, 6] (sE rfl (sE rfl (sE rfl (sE rfl (sE rfl sE0))))) (sH rfl (sH rfl (sH rfl sH0))) (by kernel_rfl)) ?_
  refine aw_seq ?_
  refine aw_region_seq [⟨.agg [.d (.int .i64 ((W : Nat) : Int)), .d (.int .i64 ((H : Nat) : Int)), .d (.int .i64 ((n : Nat) : Int)), .d (.int .i64 16), .d (.bool pl), .d (.int .i64 p), .d (.str OD)], [], [], [5]⟩, ⟨.ptr 2 3, [], [], []⟩, ⟨.d (.int .i64 B), [], [], [2]⟩, ⟨.ptr 2 4, [], [], []⟩, ⟨.d (.bool pl0), [], [], [2]⟩, ⟨.ptr 2 5, [], [], []⟩, ⟨.d (.int .i64 P0), [], [], [2]⟩, ⟨.tup [.agg [.d (.int .i64 ((W : Nat) : Int)), .d (.int .i64 ((H : Nat) : Int)), .d (.int .i64 ((n : Nat) : Int)), .d (.int .i64 B), .d (.bool pl0), .d (.int .i64 P0), .d (.str O)], .d (.int .i64 0)], [], [], []⟩, ⟨.tup [.agg [.d (.int .i64 ((W : Nat) : Int)), .d (.int .i64 ((H : Nat) : Int)), .d (.int .i64 ((n : Nat) : Int)), .d (.int .i64 B), .d (.bool pl0), .d (.int .i64 P0), .d (.str O)], .d (.int .i64 0)], [], [], []⟩, ⟨.agg [.d (.int .i64 ((W : Nat) : Int)), .d (.int .i64 ((H : Nat) : Int)), .d (.int .i64 ((n : Nat) : Int)), .d (.int .i64 B), .d (.bool pl0), .d (.int .i64 P0), .d (.str O)], [], [], []⟩, ⟨.d (.int .i64 0), [], [], []⟩, ⟨.ptr 7 0, [(7, some ⟨31, 7, [.d (.int .i64 0), .d (.int .i64 0), .d (.int .i64 0), .d (.int .i64 0), .d (.bool false), .d (.int .i64 0), .d (.str (⟨#[]⟩))]⟩)], [7], []⟩, ⟨.tup [], [(7, some ⟨31, 7, [.d (.int .i64 ((W : Nat) : Int)), .d (.int .i64 ((H : Nat) : Int)), .d (.int .i64 ((n : Nat) : Int)), .d (.int .i64 B), .d (.bool pl0), .d (.int .i64 P0), .d (.str O)]⟩)], [], [7]⟩, ⟨.d (.int .i64 0), [], [], []⟩] (by kernel_rfl) (by kernel_rfl) (fun id _ => hG id) ?_ ?_
  · exact okY rfl (LT_load 7 rfl rfl rfl (List.Mem.head _) Try.underlying31 inf31 (by simp) (.inl ⟨rfl, rfl, rfl⟩)) <| okY rfl (LT_fieldAddr rfl rfl Try.underlying31 rfl inf3 (by decide) _ rfl) <| okY rfl (LT_load 1 rfl rfl rfl (List.Mem.head _) Try.underlying3 inf3 (by simp) (.inr ⟨rfl, rfl, rfl⟩)) <| okY rfl (LT_fieldAddr rfl rfl Try.underlying31 rfl inf4 (by decide) _ rfl) <| okY rfl (LT_load 1 rfl rfl rfl (List.Mem.head _) Try.underlying4 inf4 (by simp) (.inr ⟨rfl, rfl, rfl⟩)) <| okY rfl (LT_fieldAddr rfl rfl Try.underlying31 rfl inf3 (by decide) _ rfl) <| okY rfl (LT_load 1 rfl rfl rfl (List.Mem.head _) Try.underlying3 inf3 (by simp) (.inr ⟨rfl, rfl, rfl⟩)) <| okY rfl (LT_call [.agg [.d (.int .i64 ((W : Nat) : Int)), .d (.int .i64 ((H : Nat) : Int)), .d (.int .i64 ((n : Nat) : Int)), .d (.int .i64 16), .d (.bool pl), .d (.int .i64 p), .d (.str OD)], .d (.int .i64 B), .d (.bool pl0), .d (.int .i64 P0)] rfl rfl Try.call25 rfl ((pc_shape' hdb).ct rfl)) <| okY rfl (LT_move rfl rfl) <| okY rfl (LT_extract rfl rfl rfl) <| okY rfl (LT_extract rfl rfl rfl) <| okY rfl (LT_alloc 7 rfl inf31 rfl 7 rfl (List.Mem.head _)) <| okY rfl (LT_store (ob := ⟨31, 7, [.d (.int .i64 0), .d (.int .i64 0), .d (.int .i64 0), .d (.int .i64 0), .d (.bool false), .d (.int .i64 0), .d (.str (⟨#[]⟩))]⟩) (x := .agg [.d (.int .i64 ((W : Nat) : Int)), .d (.int .i64 ((H : Nat) : Int)), .d (.int .i64 ((n : Nat) : Int)), .d (.int .i64 B), .d (.bool pl0), .d (.int .i64 P0), .d (.str O)]) rfl rfl rfl (List.Mem.head _) inf31 rfl rfl rfl (by simp [X.cells]) _ rfl) <| okY rfl (LT_assign rfl rfl) <| okE
  change AW _ _ _ _ _ _
  refine aw_weak (weak_of [(1, .d (.bool pl)), (7, .ptr 2 0), (8, .d (.int .i64 p)), (13, .ptr 5 0), (15, .ptr 6 0), (17, .ptr 7 0), (18, .d (.int .i64 0))] [(2, some ⟨31, 7, [.d (.int .i64 ((W : Nat) : Int)), .d (.int .i64 ((H : Nat) : Int)), .d (.int .i64 ((n : Nat) : Int)), .d (.int .i64 B), .d (.bool pl0), .d (.int .i64 P0), .d (.str O)]⟩), (5, some ⟨31, 7, [.d (.int .i64 ((W : Nat) : Int)), .d (.int .i64 ((H : Nat) : Int)), .d (.int .i64 ((n : Nat) : Int)), .d (.int .i64 16), .d (.bool pl), .d (.int .i64 p), .d (.str OD)]⟩), (6, some ⟨31, 7, [.d (.int .i64 ((W : Nat) : Int)), .d (.int .i64 ((H : Nat) : Int)), .d (.int .i64 ((n : Nat) : Int)), .d (.int .i64 8), .d (.bool pl), .d (.int .i64 p), .d (.str OF)]⟩), (7, some ⟨31, 7, [.d (.int .i64 ((W : Nat) : Int)), .d (.int .i64 ((H : Nat) : Int)), .d (.int .i64 ((n : Nat) : Int)), .d (.int .i64 B), .d (.bool pl0), .d (.int .i64 P0), .d (.str O)]⟩)] [2, 5, 6, 7] (sE rfl (sE rfl (sE rfl (sE rfl (sE rfl (sE rfl (sE rfl sE0))))))) (sH rfl (sH rfl (sH rfl (sH rfl sH0)))) (by kernel_rfl)) ?_
  refine aw_seq ?_
  refine aw_seq ?_
  refine aw_region_seq [⟨.d (.int .i64 0), [], [], []⟩, ⟨.d (.bool false), [], [], []⟩, ⟨.d (.bool false), [], [], []⟩, ⟨.agg [.d (.int .i64 ((W : Nat) : Int)), .d (.int .i64 ((H : Nat) : Int)), .d (.int .i64 ((n : Nat) : Int)), .d (.int .i64 B), .d (.bool pl0), .d (.int .i64 P0), .d (.str O)], [], [], [7]⟩, ⟨.agg [.d (.int .i64 ((W : Nat) : Int)), .d (.int .i64 ((H : Nat) : Int)), .d (.int .i64 ((n : Nat) : Int)), .d (.int .i64 B), .d (.bool pl0), .d (.int .i64 P0), .d (.str O)], [], [], [2]⟩, ⟨.d (.bool false), [], [], []⟩, ⟨.d (.bool false), [], [], []⟩] (by kernel_rfl) (by kernel_rfl) (fun id _ => hG id) ?_ ?_
  · exact okY rfl (LT_move rfl rfl) <| okY rfl (LT_cmp rfl rfl rfl rfl rfl) <| okY rfl (LT_move rfl rfl) <| okY rfl (LT_load 7 rfl rfl rfl (List.Mem.head _) Try.underlying31 inf31 (by simp) (.inl ⟨rfl, rfl, rfl⟩)) <| okY rfl (LT_load 7 rfl rfl rfl (List.Mem.head _) Try.underlying31 inf31 (by simp) (.inl ⟨rfl, rfl, rfl⟩)) <| okY rfl (LT_binX rfl rfl rfl rfl rfl rfl (neq_same ⟨⟨W, H, n, B, pl0, P0⟩, O⟩).1 (neq_same ⟨⟨W, H, n, B, pl0, P0⟩, O⟩).2) <| okY rfl (LT_pick rfl rfl (fun h => by cases h) (fun _ _ _ _ _ h => h)) <| okE
  change AW _ _ _ _ _ _
  refine aw_weak (weak_of [(1, .d (.bool pl)), (7, .ptr 2 0), (8, .d (.int .i64 p)), (13, .ptr 5 0), (15, .ptr 6 0), (116, .d (.bool false))] [(2, some ⟨31, 7, [.d (.int .i64 ((W : Nat) : Int)), .d (.int .i64 ((H : Nat) : Int)), .d (.int .i64 ((n : Nat) : Int)), .d (.int .i64 B), .d (.bool pl0), .d (.int .i64 P0), .d (.str O)]⟩), (5, some ⟨31, 7, [.d (.int .i64 ((W : Nat) : Int)), .d (.int .i64 ((H : Nat) : Int)), .d (.int .i64 ((n : Nat) : Int)), .d (.int .i64 16), .d (.bool pl), .d (.int .i64 p), .d (.str OD)]⟩), (6, some ⟨31, 7, [.d (.int .i64 ((W : Nat) : Int)), .d (.int .i64 ((H : Nat) : Int)), .d (.int .i64 ((n : Nat) : Int)), .d (.int .i64 8), .d (.bool pl), .d (.int .i64 p), .d (.str OF)]⟩)] [2, 5, 6] (sE rfl (sE rfl (sE rfl (sE rfl (sE rfl (sE rfl sE0)))))) (sH rfl (sH rfl (sH rfl sH0))) (by kernel_rfl)) ?_
  refine aw_condF rfl ?_
  refine aw_skip ?_
  change AW _ _ _ _ _ _
  refine aw_weak (weak_of [(1, .d (.bool pl)), (7, .ptr 2 0), (8, .d (.int .i64 p)), (13, .ptr 5 0), (15, .ptr 6 0)] [(2, some ⟨31, 7, [.d (.int .i64 ((W : Nat) : Int)), .d (.int .i64 ((H : Nat) : Int)), .d (.int .i64 ((n : Nat) : Int)), .d (.int .i64 B), .d (.bool pl0), .d (.int .i64 P0), .d (.str O)]⟩), (5, some ⟨31, 7, [.d (.int .i64 ((W : Nat) : Int)), .d (.int .i64 ((H : Nat) : Int)), .d (.int .i64 ((n : Nat) : Int)), .d (.int .i64 16), .d (.bool pl), .d (.int .i64 p), .d (.str OD)]⟩), (6, some ⟨31, 7, [.d (.int .i64 ((W : Nat) : Int)), .d (.int .i64 ((H : Nat) : Int)), .d (.int .i64 ((n : Nat) : Int)), .d (.int .i64 8), .d (.bool pl), .d (.int .i64 p), .d (.str OF)]⟩)] [2, 5, 6] (sE rfl (sE rfl (sE rfl (sE rfl (sE rfl sE0))))) (sH rfl (sH rfl (sH rfl sH0))) (by kernel_rfl)) ?_
  refine aw_seq ?_
  refine aw_region_seq [⟨.agg [.d (.int .i64 ((W : Nat) : Int)), .d (.int .i64 ((H : Nat) : Int)), .d (.int .i64 ((n : Nat) : Int)), .d (.int .i64 8), .d (.bool pl), .d (.int .i64 p), .d (.str OF)], [], [], [6]⟩, ⟨.d (.bool pl), [], [], []⟩, ⟨.d (.int .i64 p), [], [], []⟩, ⟨.tup [.agg [.d (.int .i64 ((W : Nat) : Int)), .d (.int .i64 ((H : Nat) : Int)), .d (.int .i64 ((n : Nat) : Int)), .d (.int .i64 16), .d (.bool pl), .d (.int .i64 p), .d (.str OW)], .d (.int .i64 0)], [], [], []⟩, ⟨.tup [.agg [.d (.int .i64 ((W : Nat) : Int)), .d (.int .i64 ((H : Nat) : Int)), .d (.int .i64 ((n : Nat) : Int)), .d (.int .i64 16), .d (.bool pl), .d (.int .i64 p), .d (.str OW)], .d (.int .i64 0)], [], [], []⟩, ⟨.agg [.d (.int .i64 ((W : Nat) : Int)), .d (.int .i64 ((H : Nat) : Int)), .d (.int .i64 ((n : Nat) : Int)), .d (.int .i64 16), .d (.bool pl), .d (.int .i64 p), .d (.str OW)], [], [], []⟩, ⟨.d (.int .i64 0), [], [], []⟩, ⟨.ptr 8 0, [(8, some ⟨31, 7, [.d (.int .i64 0), .d (.int .i64 0), .d (.int .i64 0), .d (.int .i64 0), .d (.bool false), .d (.int .i64 0), .d (.str (⟨#[]⟩))]⟩)], [8], []⟩, ⟨.tup [], [(8, some ⟨31, 7, [.d (.int .i64 ((W : Nat) : Int)), .d (.int .i64 ((H : Nat) : Int)), .d (.int .i64 ((n : Nat) : Int)), .d (.int .i64 16), .d (.bool pl), .d (.int .i64 p), .d (.str OW)]⟩)], [], [8]⟩, ⟨.d (.int .i64 0), [], [], []⟩] (by kernel_rfl) (by kernel_rfl) (fun id _ => hG id) ?_ ?_
  · exact okY rfl (LT_load 7 rfl rfl rfl (List.Mem.head _) Try.underlying31 inf31 (by simp) (.inl ⟨rfl, rfl, rfl⟩)) <| okY rfl (LT_move rfl rfl) <| okY rfl (LT_move rfl rfl) <| okY rfl (LT_call [.agg [.d (.int .i64 ((W : Nat) : Int)), .d (.int .i64 ((H : Nat) : Int)), .d (.int .i64 ((n : Nat) : Int)), .d (.int .i64 8), .d (.bool pl), .d (.int .i64 p), .d (.str OF)], .d (.int .i64 16), .d (.bool pl), .d (.int .i64 p)] rfl rfl Try.call25 rfl ((pc_shape' hfw).ct rfl)) <| okY rfl (LT_move rfl rfl) <| okY rfl (LT_extract rfl rfl rfl) <| okY rfl (LT_extract rfl rfl rfl) <| okY rfl (LT_alloc 8 rfl inf31 rfl 7 rfl (List.Mem.head _)) <| okY rfl (LT_store (ob := ⟨31, 7, [.d (.int .i64 0), .d (.int .i64 0), .d (.int .i64 0), .d (.int .i64 0), .d (.bool false), .d (.int .i64 0), .d (.str (⟨#[]⟩))]⟩) (x := .agg [.d (.int .i64 ((W : Nat) : Int)), .d (.int .i64 ((H : Nat) : Int)), .d (.int .i64 ((n : Nat) : Int)), .d (.int .i64 16), .d (.bool pl), .d (.int .i64 p), .d (.str OW)]) rfl rfl rfl (List.Mem.head _) inf31 rfl rfl rfl (by simp [X.cells]) _ rfl) <| okY rfl (LT_assign rfl rfl) <| okE
  change AW _ _ _ _ _ _
  refine aw_weak (weak_of [(7, .ptr 2 0), (13, .ptr 5 0), (19, .ptr 8 0), (20, .d (.int .i64 0))] [(2, some ⟨31, 7, [.d (.int .i64 ((W : Nat) : Int)), .d (.int .i64 ((H : Nat) : Int)), .d (.int .i64 ((n : Nat) : Int)), .d (.int .i64 B), .d (.bool pl0), .d (.int .i64 P0), .d (.str O)]⟩), (5, some ⟨31, 7, [.d (.int .i64 ((W : Nat) : Int)), .d (.int .i64 ((H : Nat) : Int)), .d (.int .i64 ((n : Nat) : Int)), .d (.int .i64 16), .d (.bool pl), .d (.int .i64 p), .d (.str OD)]⟩), (8, some ⟨31, 7, [.d (.int .i64 ((W : Nat) : Int)), .d (.int .i64 ((H : Nat) : Int)), .d (.int .i64 ((n : Nat) : Int)), .d (.int .i64 16), .d (.bool pl), .d (.int .i64 p), .d (.str OW)]⟩)] [2, 5, 8] (sE rfl (sE rfl (sE rfl (sE rfl sE0)))) (sH rfl (sH rfl (sH rfl sH0))) (by kernel_rfl)) ?_
  refine aw_seq ?_
  refine aw_seq ?_
  refine aw_region_seq [⟨.d (.int .i64 0), [], [], []⟩, ⟨.d (.bool false), [], [], []⟩] (by kernel_rfl) (by kernel_rfl) (fun id _ => hG id) ?_ ?_
  · exact okY rfl (LT_move rfl rfl) <| okY rfl (LT_cmp rfl rfl rfl rfl rfl) <| okE
  change AW _ _ _ _ _ _
  refine aw_weak (weak_of [(7, .ptr 2 0), (13, .ptr 5 0), (19, .ptr 8 0), (125, .d (.bool false))] [(2, some ⟨31, 7, [.d (.int .i64 ((W : Nat) : Int)), .d (.int .i64 ((H : Nat) : Int)), .d (.int .i64 ((n : Nat) : Int)), .d (.int .i64 B), .d (.bool pl0), .d (.int .i64 P0), .d (.str O)]⟩), (5, some ⟨31, 7, [.d (.int .i64 ((W : Nat) : Int)), .d (.int .i64 ((H : Nat) : Int)), .d (.int .i64 ((n : Nat) : Int)), .d (.int .i64 16), .d (.bool pl), .d (.int .i64 p), .d (.str OD)]⟩), (8, some ⟨31, 7, [.d (.int .i64 ((W : Nat) : Int)), .d (.int .i64 ((H : Nat) : Int)), .d (.int .i64 ((n : Nat) : Int)), .d (.int .i64 16), .d (.bool pl), .d (.int .i64 p), .d (.str OW)]⟩)] [2, 5, 8] (sE rfl (sE rfl (sE rfl (sE rfl sE0)))) (sH rfl (sH rfl (sH rfl sH0))) (by kernel_rfl)) ?_
  refine aw_condF rfl ?_
  refine aw_skip ?_
  change AW _ _ _ _ _ _
  refine aw_weak (weak_of [(7, .ptr 2 0), (13, .ptr 5 0), (19, .ptr 8 0)] [(2, some ⟨31, 7, [.d (.int .i64 ((W : Nat) : Int)), .d (.int .i64 ((H : Nat) : Int)), .d (.int .i64 ((n : Nat) : Int)), .d (.int .i64 B), .d (.bool pl0), .d (.int .i64 P0), .d (.str O)]⟩), (5, some ⟨31, 7, [.d (.int .i64 ((W : Nat) : Int)), .d (.int .i64 ((H : Nat) : Int)), .d (.int .i64 ((n : Nat) : Int)), .d (.int .i64 16), .d (.bool pl), .d (.int .i64 p), .d (.str OD)]⟩), (8, some ⟨31, 7, [.d (.int .i64 ((W : Nat) : Int)), .d (.int .i64 ((H : Nat) : Int)), .d (.int .i64 ((n : Nat) : Int)), .d (.int .i64 16), .d (.bool pl), .d (.int .i64 p), .d (.str OW)]⟩)] [2, 5, 8] (sE rfl (sE rfl (sE rfl sE0))) (sH rfl (sH rfl (sH rfl sH0))) (by kernel_rfl)) ?_
  refine aw_seq ?_
  refine aw_seq ?_
  refine aw_region_seq [⟨.ptr 2 1, [], [], []⟩, ⟨.d (.int .i64 ((H : Nat) : Int)), [], [], [2]⟩, ⟨.d (.int .i64 0), [], [], []⟩] (by kernel_rfl) (by kernel_rfl) (fun id _ => hG id) ?_ ?_
  · exact okY rfl (LT_fieldAddr rfl rfl Try.underlying31 rfl inf3 (by decide) _ rfl) <| okY rfl (LT_load 1 rfl rfl rfl (List.Mem.head _) Try.underlying3 inf3 (by simp) (.inr ⟨rfl, rfl, rfl⟩)) <| okY rfl (LT_move rfl rfl) <| okE
  change AW _ _ _ _ _ _
  refine aw_weak (weak_of [(7, .ptr 2 0), (13, .ptr 5 0), (19, .ptr 8 0), (127, .d (.int .i64 ((H : Nat) : Int))), (128, .d (.int .i64 0))] [(2, some ⟨31, 7, [.d (.int .i64 ((W : Nat) : Int)), .d (.int .i64 ((H : Nat) : Int)), .d (.int .i64 ((n : Nat) : Int)), .d (.int .i64 B), .d (.bool pl0), .d (.int .i64 P0), .d (.str O)]⟩), (5, some ⟨31, 7, [.d (.int .i64 ((W : Nat) : Int)), .d (.int .i64 ((H : Nat) : Int)), .d (.int .i64 ((n : Nat) : Int)), .d (.int .i64 16), .d (.bool pl), .d (.int .i64 p), .d (.str OD)]⟩), (8, some ⟨31, 7, [.d (.int .i64 ((W : Nat) : Int)), .d (.int .i64 ((H : Nat) : Int)), .d (.int .i64 ((n : Nat) : Int)), .d (.int .i64 16), .d (.bool pl), .d (.int .i64 p), .d (.str OW)]⟩)] [2, 5, 8] (sE rfl (sE rfl (sE rfl (sE rfl (sE rfl sE0))))) (sH rfl (sH rfl (sH rfl sH0))) (by kernel_rfl)) ?_
  refine aw_block ?_
  refine aw_loopJ (fun j => ⟨[(7, .ptr 2 0), (13, .ptr 5 0), (19, .ptr 8 0), (127, .d (.int .i64 ((H : Nat) : Int))), (128, .d (.int .i64 ((j : Nat) : Int)))], [(2, some ⟨31, 7, [.d (.int .i64 ((W : Nat) : Int)), .d (.int .i64 ((H : Nat) : Int)), .d (.int .i64 ((n : Nat) : Int)), .d (.int .i64 B), .d (.bool pl0), .d (.int .i64 P0), .d (.str O)]⟩), (5, some ⟨31, 7, [.d (.int .i64 ((W : Nat) : Int)), .d (.int .i64 ((H : Nat) : Int)), .d (.int .i64 ((n : Nat) : Int)), .d (.int .i64 16), .d (.bool pl), .d (.int .i64 p), .d (.str OD)]⟩), (8, some ⟨31, 7, [.d (.int .i64 ((W : Nat) : Int)), .d (.int .i64 ((H : Nat) : Int)), .d (.int .i64 ((n : Nat) : Int)), .d (.int .i64 16), .d (.bool pl), .d (.int .i64 p), .d (.str OW)]⟩)], [2, 5, 8]⟩) (fun j => j ≤ H) (fun j => H - j) 0 (Nat.zero_le _) ?_ ?_
  · exact weak_of _ _ _ (sE rfl (sE rfl (sE rfl (sE rfl (sE rfl sE0))))) (sH rfl (sH rfl (sH rfl sH0))) (by kernel_rfl)
  intro j hJ0
  refine aw_seq ?_
  refine aw_region_seq [⟨.d (.bool (decide ((((j : Nat) : Int) : Int) < ((H : Nat) : Int)))), [], [], []⟩] (by kernel_rfl) (by kernel_rfl) (fun id _ => hG id) ?_ ?_
  · exact okY rfl (LT_cmp rfl rfl rfl rfl rfl) <| okE
  change AW _ _ _ _ _ _
  refine aw_weak (weak_of [(7, .ptr 2 0), (13, .ptr 5 0), (19, .ptr 8 0), (127, .d (.int .i64 ((H : Nat) : Int))), (128, .d (.int .i64 ((j : Nat) : Int))), (129, .d (.bool (decide ((((j : Nat) : Int) : Int) < ((H : Nat) : Int)))))] [(2, some ⟨31, 7, [.d (.int .i64 ((W : Nat) : Int)), .d (.int .i64 ((H : Nat) : Int)), .d (.int .i64 ((n : Nat) : Int)), .d (.int .i64 B), .d (.bool pl0), .d (.int .i64 P0), .d (.str O)]⟩), (5, some ⟨31, 7, [.d (.int .i64 ((W : Nat) : Int)), .d (.int .i64 ((H : Nat) : Int)), .d (.int .i64 ((n : Nat) : Int)), .d (.int .i64 16), .d (.bool pl), .d (.int .i64 p), .d (.str OD)]⟩), (8, some ⟨31, 7, [.d (.int .i64 ((W : Nat) : Int)), .d (.int .i64 ((H : Nat) : Int)), .d (.int .i64 ((n : Nat) : Int)), .d (.int .i64 16), .d (.bool pl), .d (.int .i64 p), .d (.str OW)]⟩)] [2, 5, 8] (sE rfl (sE rfl (sE rfl (sE rfl (sE rfl (sE rfl sE0)))))) (sH rfl (sH rfl (sH rfl sH0))) (by kernel_rfl)) ?_
  refine aw_seq ?_
  refine aw_cond (decide ((((j : Nat) : Int) : Int) < ((H : Nat) : Int))) rfl (fun hb1 => ?_) (fun hb1 => ?_)
  ·
    replace hb1 := of_decide_eq_true hb1
    refine aw_skip ?_
    change AW _ _ _ _ _ _
    refine aw_weak (weak_of [(7, .ptr 2 0), (13, .ptr 5 0), (19, .ptr 8 0), (127, .d (.int .i64 ((H : Nat) : Int))), (128, .d (.int .i64 ((j : Nat) : Int)))] [(2, some ⟨31, 7, [.d (.int .i64 ((W : Nat) : Int)), .d (.int .i64 ((H : Nat) : Int)), .d (.int .i64 ((n : Nat) : Int)), .d (.int .i64 B), .d (.bool pl0), .d (.int .i64 P0), .d (.str O)]⟩), (5, some ⟨31, 7, [.d (.int .i64 ((W : Nat) : Int)), .d (.int .i64 ((H : Nat) : Int)), .d (.int .i64 ((n : Nat) : Int)), .d (.int .i64 16), .d (.bool pl), .d (.int .i64 p), .d (.str OD)]⟩), (8, some ⟨31, 7, [.d (.int .i64 ((W : Nat) : Int)), .d (.int .i64 ((H : Nat) : Int)), .d (.int .i64 ((n : Nat) : Int)), .d (.int .i64 16), .d (.bool pl), .d (.int .i64 p), .d (.str OW)]⟩)] [2, 5, 8] (sE rfl (sE rfl (sE rfl (sE rfl (sE rfl sE0))))) (sH rfl (sH rfl (sH rfl sH0))) (by kernel_rfl)) ?_
    refine aw_seq ?_
    refine aw_block ?_
    refine aw_seq ?_
    refine aw_region_seq [⟨.d (.int .i64 ((j : Nat) : Int)), [], [], []⟩, ⟨.d (.int .i64 ((j : Nat) : Int)), [], [], []⟩] (by kernel_rfl) (by kernel_rfl) (fun id _ => hG id) ?_ ?_
    · exact okY rfl (LT_move rfl rfl) <| okY rfl (LT_assign rfl rfl) <| okE
    change AW _ _ _ _ _ _
    refine aw_weak (weak_of [(7, .ptr 2 0), (13, .ptr 5 0), (19, .ptr 8 0), (127, .d (.int .i64 ((H : Nat) : Int))), (128, .d (.int .i64 ((j : Nat) : Int))), (21, .d (.int .i64 ((j : Nat) : Int)))] [(2, some ⟨31, 7, [.d (.int .i64 ((W : Nat) : Int)), .d (.int .i64 ((H : Nat) : Int)), .d (.int .i64 ((n : Nat) : Int)), .d (.int .i64 B), .d (.bool pl0), .d (.int .i64 P0), .d (.str O)]⟩), (5, some ⟨31, 7, [.d (.int .i64 ((W : Nat) : Int)), .d (.int .i64 ((H : Nat) : Int)), .d (.int .i64 ((n : Nat) : Int)), .d (.int .i64 16), .d (.bool pl), .d (.int .i64 p), .d (.str OD)]⟩), (8, some ⟨31, 7, [.d (.int .i64 ((W : Nat) : Int)), .d (.int .i64 ((H : Nat) : Int)), .d (.int .i64 ((n : Nat) : Int)), .d (.int .i64 16), .d (.bool pl), .d (.int .i64 p), .d (.str OW)]⟩)] [2, 5, 8] (sE rfl (sE rfl (sE rfl (sE rfl (sE rfl (sE rfl sE0)))))) (sH rfl (sH rfl (sH rfl sH0))) (by kernel_rfl)) ?_
    refine aw_seq ?_
    refine aw_region_seq [⟨.ptr 2 0, [], [], []⟩, ⟨.d (.int .i64 ((W : Nat) : Int)), [], [], [2]⟩, ⟨.d (.int .i64 0), [], [], []⟩] (by kernel_rfl) (by kernel_rfl) (fun id _ => hG id) ?_ ?_
    · exact okY rfl (LT_fieldAddr rfl rfl Try.underlying31 rfl inf3 (by decide) _ rfl) <| okY rfl (LT_load 1 rfl rfl rfl (List.Mem.head _) Try.underlying3 inf3 (by simp) (.inr ⟨rfl, rfl, rfl⟩)) <| okY rfl (LT_move rfl rfl) <| okE
    change AW _ _ _ _ _ _
    refine aw_weak (weak_of [(7, .ptr 2 0), (13, .ptr 5 0), (19, .ptr 8 0), (127, .d (.int .i64 ((H : Nat) : Int))), (128, .d (.int .i64 ((j : Nat) : Int))), (21, .d (.int .i64 ((j : Nat) : Int))), (132, .d (.int .i64 ((W : Nat) : Int))), (133, .d (.int .i64 0))] [(2, some ⟨31, 7, [.d (.int .i64 ((W : Nat) : Int)), .d (.int .i64 ((H : Nat) : Int)), .d (.int .i64 ((n : Nat) : Int)), .d (.int .i64 B), .d (.bool pl0), .d (.int .i64 P0), .d (.str O)]⟩), (5, some ⟨31, 7, [.d (.int .i64 ((W : Nat) : Int)), .d (.int .i64 ((H : Nat) : Int)), .d (.int .i64 ((n : Nat) : Int)), .d (.int .i64 16), .d (.bool pl), .d (.int .i64 p), .d (.str OD)]⟩), (8, some ⟨31, 7, [.d (.int .i64 ((W : Nat) : Int)), .d (.int .i64 ((H : Nat) : Int)), .d (.int .i64 ((n : Nat) : Int)), .d (.int .i64 16), .d (.bool pl), .d (.int .i64 p), .d (.str OW)]⟩)] [2, 5, 8] (sE rfl (sE rfl (sE rfl (sE rfl (sE rfl (sE rfl (sE rfl (sE rfl sE0)))))))) (sH rfl (sH rfl (sH rfl sH0))) (by kernel_rfl)) ?_
    refine aw_block ?_
    refine aw_loopJ (fun i => ⟨[(7, .ptr 2 0), (13, .ptr 5 0), (19, .ptr 8 0), (127, .d (.int .i64 ((H : Nat) : Int))), (128, .d (.int .i64 ((j : Nat) : Int))), (21, .d (.int .i64 ((j : Nat) : Int))), (132, .d (.int .i64 ((W : Nat) : Int))), (133, .d (.int .i64 ((i : Nat) : Int)))], [(2, some ⟨31, 7, [.d (.int .i64 ((W : Nat) : Int)), .d (.int .i64 ((H : Nat) : Int)), .d (.int .i64 ((n : Nat) : Int)), .d (.int .i64 B), .d (.bool pl0), .d (.int .i64 P0), .d (.str O)]⟩), (5, some ⟨31, 7, [.d (.int .i64 ((W : Nat) : Int)), .d (.int .i64 ((H : Nat) : Int)), .d (.int .i64 ((n : Nat) : Int)), .d (.int .i64 16), .d (.bool pl), .d (.int .i64 p), .d (.str OD)]⟩), (8, some ⟨31, 7, [.d (.int .i64 ((W : Nat) : Int)), .d (.int .i64 ((H : Nat) : Int)), .d (.int .i64 ((n : Nat) : Int)), .d (.int .i64 16), .d (.bool pl), .d (.int .i64 p), .d (.str OW)]⟩)], [2, 5, 8]⟩) (fun i => i ≤ W) (fun i => W - i) 0 (Nat.zero_le _) ?_ ?_
    · exact weak_of _ _ _ (sE rfl (sE rfl (sE rfl (sE rfl (sE rfl (sE rfl (sE rfl (sE rfl sE0)))))))) (sH rfl (sH rfl (sH rfl sH0))) (by kernel_rfl)
    intro i hJ1
    refine aw_seq ?_
    refine aw_region_seq [⟨.d (.bool (decide ((((i : Nat) : Int) : Int) < ((W : Nat) : Int)))), [], [], []⟩] (by kernel_rfl) (by kernel_rfl) (fun id _ => hG id) ?_ ?_
    · exact okY rfl (LT_cmp rfl rfl rfl rfl rfl) <| okE
    change AW _ _ _ _ _ _
    refine aw_weak (weak_of [(7, .ptr 2 0), (13, .ptr 5 0), (19, .ptr 8 0), (127, .d (.int .i64 ((H : Nat) : Int))), (128, .d (.int .i64 ((j : Nat) : Int))), (21, .d (.int .i64 ((j : Nat) : Int))), (132, .d (.int .i64 ((W : Nat) : Int))), (133, .d (.int .i64 ((i : Nat) : Int))), (134, .d (.bool (decide ((((i : Nat) : Int) : Int) < ((W : Nat) : Int)))))] [(2, some ⟨31, 7, [.d (.int .i64 ((W : Nat) : Int)), .d (.int .i64 ((H : Nat) : Int)), .d (.int .i64 ((n : Nat) : Int)), .d (.int .i64 B), .d (.bool pl0), .d (.int .i64 P0), .d (.str O)]⟩), (5, some ⟨31, 7, [.d (.int .i64 ((W : Nat) : Int)), .d (.int .i64 ((H : Nat) : Int)), .d (.int .i64 ((n : Nat) : Int)), .d (.int .i64 16), .d (.bool pl), .d (.int .i64 p), .d (.str OD)]⟩), (8, some ⟨31, 7, [.d (.int .i64 ((W : Nat) : Int)), .d (.int .i64 ((H : Nat) : Int)), .d (.int .i64 ((n : Nat) : Int)), .d (.int .i64 16), .d (.bool pl), .d (.int .i64 p), .d (.str OW)]⟩)] [2, 5, 8] (sE rfl (sE rfl (sE rfl (sE rfl (sE rfl (sE rfl (sE rfl (sE rfl (sE rfl sE0))))))))) (sH rfl (sH rfl (sH rfl sH0))) (by kernel_rfl)) ?_
    refine aw_seq ?_
    refine aw_cond (decide ((((i : Nat) : Int) : Int) < ((W : Nat) : Int))) rfl (fun hb2 => ?_) (fun hb2 => ?_)
    ·
      replace hb2 := of_decide_eq_true hb2
      refine aw_skip ?_
      change AW _ _ _ _ _ _
      refine aw_weak (weak_of [(7, .ptr 2 0), (13, .ptr 5 0), (19, .ptr 8 0), (127, .d (.int .i64 ((H : Nat) : Int))), (128, .d (.int .i64 ((j : Nat) : Int))), (21, .d (.int .i64 ((j : Nat) : Int))), (132, .d (.int .i64 ((W : Nat) : Int))), (133, .d (.int .i64 ((i : Nat) : Int)))] [(2, some ⟨31, 7, [.d (.int .i64 ((W : Nat) : Int)), .d (.int .i64 ((H : Nat) : Int)), .d (.int .i64 ((n : Nat) : Int)), .d (.int .i64 B), .d (.bool pl0), .d (.int .i64 P0), .d (.str O)]⟩), (5, some ⟨31, 7, [.d (.int .i64 ((W : Nat) : Int)), .d (.int .i64 ((H : Nat) : Int)), .d (.int .i64 ((n : Nat) : Int)), .d (.int .i64 16), .d (.bool pl), .d (.int .i64 p), .d (.str OD)]⟩), (8, some ⟨31, 7, [.d (.int .i64 ((W : Nat) : Int)), .d (.int .i64 ((H : Nat) : Int)), .d (.int .i64 ((n : Nat) : Int)), .d (.int .i64 16), .d (.bool pl), .d (.int .i64 p), .d (.str OW)]⟩)] [2, 5, 8] (sE rfl (sE rfl (sE rfl (sE rfl (sE rfl (sE rfl (sE rfl (sE rfl sE0)))))))) (sH rfl (sH rfl (sH rfl sH0))) (by kernel_rfl)) ?_
      refine aw_seq ?_
      refine aw_block ?_
      refine aw_seq ?_
      refine aw_region_seq [⟨.d (.int .i64 ((i : Nat) : Int)), [], [], []⟩, ⟨.d (.int .i64 ((i : Nat) : Int)), [], [], []⟩] (by kernel_rfl) (by kernel_rfl) (fun id _ => hG id) ?_ ?_
      · exact okY rfl (LT_move rfl rfl) <| okY rfl (LT_assign rfl rfl) <| okE
      change AW _ _ _ _ _ _
      refine aw_weak (weak_of [(7, .ptr 2 0), (13, .ptr 5 0), (19, .ptr 8 0), (127, .d (.int .i64 ((H : Nat) : Int))), (128, .d (.int .i64 ((j : Nat) : Int))), (21, .d (.int .i64 ((j : Nat) : Int))), (132, .d (.int .i64 ((W : Nat) : Int))), (133, .d (.int .i64 ((i : Nat) : Int))), (22, .d (.int .i64 ((i : Nat) : Int)))] [(2, some ⟨31, 7, [.d (.int .i64 ((W : Nat) : Int)), .d (.int .i64 ((H : Nat) : Int)), .d (.int .i64 ((n : Nat) : Int)), .d (.int .i64 B), .d (.bool pl0), .d (.int .i64 P0), .d (.str O)]⟩), (5, some ⟨31, 7, [.d (.int .i64 ((W : Nat) : Int)), .d (.int .i64 ((H : Nat) : Int)), .d (.int .i64 ((n : Nat) : Int)), .d (.int .i64 16), .d (.bool pl), .d (.int .i64 p), .d (.str OD)]⟩), (8, some ⟨31, 7, [.d (.int .i64 ((W : Nat) : Int)), .d (.int .i64 ((H : Nat) : Int)), .d (.int .i64 ((n : Nat) : Int)), .d (.int .i64 16), .d (.bool pl), .d (.int .i64 p), .d (.str OW)]⟩)] [2, 5, 8] (sE rfl (sE rfl (sE rfl (sE rfl (sE rfl (sE rfl (sE rfl (sE rfl (sE rfl sE0))))))))) (sH rfl (sH rfl (sH rfl sH0))) (by kernel_rfl)) ?_
      refine aw_seq ?_
      refine aw_region_seq [⟨.agg [.d (.int .i64 ((W : Nat) : Int)), .d (.int .i64 ((H : Nat) : Int)), .d (.int .i64 ((n : Nat) : Int)), .d (.int .i64 16), .d (.bool pl), .d (.int .i64 p), .d (.str OD)], [], [], [5]⟩, ⟨.d (.int .i64 ((i : Nat) : Int)), [], [], []⟩, ⟨.d (.int .i64 ((j : Nat) : Int)), [], [], []⟩, ⟨.tup [.d (.slw n 1 (intsD (row0 ⟨⟨W, H, n, 16, pl, p⟩, OD⟩ n i j))), .d (.int .i64 0)], [], [], []⟩, ⟨.tup [.d (.slw n 1 (intsD (row0 ⟨⟨W, H, n, 16, pl, p⟩, OD⟩ n i j))), .d (.int .i64 0)], [], [], []⟩, ⟨.d (.slw n 1 (intsD (row0 ⟨⟨W, H, n, 16, pl, p⟩, OD⟩ n i j))), [], [], []⟩, ⟨.d (.int .i64 0), [], [], []⟩, ⟨.d (.slw n 1 (intsD (row0 ⟨⟨W, H, n, 16, pl, p⟩, OD⟩ n i j))), [], [], []⟩, ⟨.d (.int .i64 0), [], [], []⟩] (by kernel_rfl) (by kernel_rfl) (fun id _ => hG id) ?_ ?_
      · exact okY rfl (LT_load 7 rfl rfl rfl (List.Mem.head _) Try.underlying31 inf31 (by simp) (.inl ⟨rfl, rfl, rfl⟩)) <| okY rfl (LT_move rfl rfl) <| okY rfl (LT_move rfl rfl) <| okY rfl (LT_call [.agg [.d (.int .i64 ((W : Nat) : Int)), .d (.int .i64 ((H : Nat) : Int)), .d (.int .i64 ((n : Nat) : Int)), .d (.int .i64 16), .d (.bool pl), .d (.int .i64 p), .d (.str OD)], .d (.int .i64 ((i : Nat) : Int)), .d (.int .i64 ((j : Nat) : Int))] rfl rfl Try.call19 rfl ((pc_get' (hgd i j (by omega) (by omega)) (row0_len _ _ _ _)).ct rfl)) <| okY rfl (LT_move rfl rfl) <| okY rfl (LT_extract rfl rfl rfl) <| okY rfl (LT_extract rfl rfl rfl) <| okY rfl (LT_assign rfl rfl) <| okY rfl (LT_assign rfl rfl) <| okE
      change AW _ _ _ _ _ _
      refine aw_weak (weak_of [(7, .ptr 2 0), (13, .ptr 5 0), (19, .ptr 8 0), (127, .d (.int .i64 ((H : Nat) : Int))), (128, .d (.int .i64 ((j : Nat) : Int))), (21, .d (.int .i64 ((j : Nat) : Int))), (132, .d (.int .i64 ((W : Nat) : Int))), (133, .d (.int .i64 ((i : Nat) : Int))), (22, .d (.int .i64 ((i : Nat) : Int))), (23, .d (.slw n 1 (intsD (row0 ⟨⟨W, H, n, 16, pl, p⟩, OD⟩ n i j)))), (24, .d (.int .i64 0))] [(2, some ⟨31, 7, [.d (.int .i64 ((W : Nat) : Int)), .d (.int .i64 ((H : Nat) : Int)), .d (.int .i64 ((n : Nat) : Int)), .d (.int .i64 B), .d (.bool pl0), .d (.int .i64 P0), .d (.str O)]⟩), (5, some ⟨31, 7, [.d (.int .i64 ((W : Nat) : Int)), .d (.int .i64 ((H : Nat) : Int)), .d (.int .i64 ((n : Nat) : Int)), .d (.int .i64 16), .d (.bool pl), .d (.int .i64 p), .d (.str OD)]⟩), (8, some ⟨31, 7, [.d (.int .i64 ((W : Nat) : Int)), .d (.int .i64 ((H : Nat) : Int)), .d (.int .i64 ((n : Nat) : Int)), .d (.int .i64 16), .d (.bool pl), .d (.int .i64 p), .d (.str OW)]⟩)] [2, 5, 8] (sE rfl (sE rfl (sE rfl (sE rfl (sE rfl (sE rfl (sE rfl (sE rfl (sE rfl (sE rfl (sE rfl sE0))))))))))) (sH rfl (sH rfl (sH rfl sH0))) (by kernel_rfl)) ?_
      refine aw_seq ?_
      refine aw_region_seq [⟨.agg [.d (.int .i64 ((W : Nat) : Int)), .d (.int .i64 ((H : Nat) : Int)), .d (.int .i64 ((n : Nat) : Int)), .d (.int .i64 16), .d (.bool pl), .d (.int .i64 p), .d (.str OW)], [], [], [8]⟩, ⟨.d (.int .i64 ((i : Nat) : Int)), [], [], []⟩, ⟨.d (.int .i64 ((j : Nat) : Int)), [], [], []⟩, ⟨.tup [.d (.slw n 1 (intsD (row0 ⟨⟨W, H, n, 16, pl, p⟩, OW⟩ n i j))), .d (.int .i64 0)], [], [], []⟩, ⟨.tup [.d (.slw n 1 (intsD (row0 ⟨⟨W, H, n, 16, pl, p⟩, OW⟩ n i j))), .d (.int .i64 0)], [], [], []⟩, ⟨.d (.slw n 1 (intsD (row0 ⟨⟨W, H, n, 16, pl, p⟩, OW⟩ n i j))), [], [], []⟩, ⟨.d (.int .i64 0), [], [], []⟩, ⟨.d (.slw n 1 (intsD (row0 ⟨⟨W, H, n, 16, pl, p⟩, OW⟩ n i j))), [], [], []⟩, ⟨.d (.int .i64 0), [], [], []⟩] (by kernel_rfl) (by kernel_rfl) (fun id _ => hG id) ?_ ?_
      · exact okY rfl (LT_load 7 rfl rfl rfl (List.Mem.head _) Try.underlying31 inf31 (by simp) (.inl ⟨rfl, rfl, rfl⟩)) <| okY rfl (LT_move rfl rfl) <| okY rfl (LT_move rfl rfl) <| okY rfl (LT_call [.agg [.d (.int .i64 ((W : Nat) : Int)), .d (.int .i64 ((H : Nat) : Int)), .d (.int .i64 ((n : Nat) : Int)), .d (.int .i64 16), .d (.bool pl), .d (.int .i64 p), .d (.str OW)], .d (.int .i64 ((i : Nat) : Int)), .d (.int .i64 ((j : Nat) : Int))] rfl rfl Try.call19 rfl ((pc_get' (hgw i j (by omega) (by omega)) (row0_len _ _ _ _)).ct rfl)) <| okY rfl (LT_move rfl rfl) <| okY rfl (LT_extract rfl rfl rfl) <| okY rfl (LT_extract rfl rfl rfl) <| okY rfl (LT_assign rfl rfl) <| okY rfl (LT_assign rfl rfl) <| okE
      change AW _ _ _ _ _ _
      refine aw_weak (weak_of [(7, .ptr 2 0), (13, .ptr 5 0), (19, .ptr 8 0), (127, .d (.int .i64 ((H : Nat) : Int))), (128, .d (.int .i64 ((j : Nat) : Int))), (21, .d (.int .i64 ((j : Nat) : Int))), (132, .d (.int .i64 ((W : Nat) : Int))), (133, .d (.int .i64 ((i : Nat) : Int))), (23, .d (.slw n 1 (intsD (row0 ⟨⟨W, H, n, 16, pl, p⟩, OD⟩ n i j)))), (24, .d (.int .i64 0)), (25, .d (.slw n 1 (intsD (row0 ⟨⟨W, H, n, 16, pl, p⟩, OW⟩ n i j)))), (26, .d (.int .i64 0))] [(2, some ⟨31, 7, [.d (.int .i64 ((W : Nat) : Int)), .d (.int .i64 ((H : Nat) : Int)), .d (.int .i64 ((n : Nat) : Int)), .d (.int .i64 B), .d (.bool pl0), .d (.int .i64 P0), .d (.str O)]⟩), (5, some ⟨31, 7, [.d (.int .i64 ((W : Nat) : Int)), .d (.int .i64 ((H : Nat) : Int)), .d (.int .i64 ((n : Nat) : Int)), .d (.int .i64 16), .d (.bool pl), .d (.int .i64 p), .d (.str OD)]⟩), (8, some ⟨31, 7, [.d (.int .i64 ((W : Nat) : Int)), .d (.int .i64 ((H : Nat) : Int)), .d (.int .i64 ((n : Nat) : Int)), .d (.int .i64 16), .d (.bool pl), .d (.int .i64 p), .d (.str OW)]⟩)] [2, 5, 8] (sE rfl (sE rfl (sE rfl (sE rfl (sE rfl (sE rfl (sE rfl (sE rfl (sE rfl (sE rfl (sE rfl (sE rfl sE0)))))))))))) (sH rfl (sH rfl (sH rfl sH0))) (by kernel_rfl)) ?_
      refine aw_seq ?_
      refine aw_seq ?_
      refine aw_region_seq [⟨.d (.int .i64 0), [], [], []⟩, ⟨.d (.bool false), [], [], []⟩, ⟨.d (.bool false), [], [], []⟩, ⟨.d (.int .i64 0), [], [], []⟩, ⟨.d (.bool false), [], [], []⟩, ⟨.d (.bool false), [], [], []⟩, ⟨.d (.bool false), [], [], []⟩, ⟨.d (.slw n 1 (intsD (row0 ⟨⟨W, H, n, 16, pl, p⟩, OD⟩ n i j))), [], [], []⟩, ⟨.d (.int .i64 ((n : Nat) : Int)), [], [], []⟩, ⟨.ptr 2 2, [], [], []⟩, ⟨.d (.int .i64 ((n : Nat) : Int)), [], [], [2]⟩, ⟨.d (.bool false), [], [], []⟩, ⟨.d (.bool false), [], [], []⟩, ⟨.d (.bool false), [], [], []⟩, ⟨.d (.slw n 1 (intsD (row0 ⟨⟨W, H, n, 16, pl, p⟩, OW⟩ n i j))), [], [], []⟩, ⟨.d (.int .i64 ((n : Nat) : Int)), [], [], []⟩, ⟨.ptr 2 2, [], [], []⟩, ⟨.d (.int .i64 ((n : Nat) : Int)), [], [], [2]⟩, ⟨.d (.bool false), [], [], []⟩, ⟨.d (.bool false), [], [], []⟩] (by kernel_rfl) (by kernel_rfl) (fun id _ => hG id) ?_ ?_
      · exact okY rfl (LT_move rfl rfl) <| okY rfl (LT_cmp rfl rfl rfl rfl rfl) <| okY rfl (LT_move rfl rfl) <| okY rfl (LT_move rfl rfl) <| okY rfl (LT_cmp rfl rfl rfl rfl rfl) <| okY rfl (LT_pick rfl rfl (fun h => by cases h) (fun _ _ _ _ _ h => h)) <| okY rfl (LT_move rfl rfl) <| okY rfl (LT_move rfl rfl) <| okY rfl (LT_lenW rfl Try.underlying44 rfl) <| okY rfl (LT_fieldAddr rfl rfl Try.underlying31 rfl inf3 (by decide) _ rfl) <| okY rfl (LT_load 1 rfl rfl rfl (List.Mem.head _) Try.underlying3 inf3 (by simp) (.inr ⟨rfl, rfl, rfl⟩)) <| okY rfl (LT_cmp rfl rfl rfl rfl (by simp [cmpI])) <| okY rfl (LT_pick rfl rfl (fun h => by cases h) (fun _ _ _ _ _ h => h)) <| okY rfl (LT_move rfl rfl) <| okY rfl (LT_move rfl rfl) <| okY rfl (LT_lenW rfl Try.underlying44 rfl) <| okY rfl (LT_fieldAddr rfl rfl Try.underlying31 rfl inf3 (by decide) _ rfl) <| okY rfl (LT_load 1 rfl rfl rfl (List.Mem.head _) Try.underlying3 inf3 (by simp) (.inr ⟨rfl, rfl, rfl⟩)) <| okY rfl (LT_cmp rfl rfl rfl rfl (by simp [cmpI])) <| okY rfl (LT_pick rfl rfl (fun h => by cases h) (fun _ _ _ _ _ h => h)) <| okE
      change AW _ _ _ _ _ _
      refine aw_weak (weak_of [(7, .ptr 2 0), (13, .ptr 5 0), (19, .ptr 8 0), (127, .d (.int .i64 ((H : Nat) : Int))), (128, .d (.int .i64 ((j : Nat) : Int))), (21, .d (.int .i64 ((j : Nat) : Int))), (132, .d (.int .i64 ((W : Nat) : Int))), (133, .d (.int .i64 ((i : Nat) : Int))), (23, .d (.slw n 1 (intsD (row0 ⟨⟨W, H, n, 16, pl, p⟩, OD⟩ n i j)))), (25, .d (.slw n 1 (intsD (row0 ⟨⟨W, H, n, 16, pl, p⟩, OW⟩ n i j)))), (169, .d (.bool false))] [(2, some ⟨31, 7, [.d (.int .i64 ((W : Nat) : Int)), .d (.int .i64 ((H : Nat) : Int)), .d (.int .i64 ((n : Nat) : Int)), .d (.int .i64 B), .d (.bool pl0), .d (.int .i64 P0), .d (.str O)]⟩), (5, some ⟨31, 7, [.d (.int .i64 ((W : Nat) : Int)), .d (.int .i64 ((H : Nat) : Int)), .d (.int .i64 ((n : Nat) : Int)), .d (.int .i64 16), .d (.bool pl), .d (.int .i64 p), .d (.str OD)]⟩), (8, some ⟨31, 7, [.d (.int .i64 ((W : Nat) : Int)), .d (.int .i64 ((H : Nat) : Int)), .d (.int .i64 ((n : Nat) : Int)), .d (.int .i64 16), .d (.bool pl), .d (.int .i64 p), .d (.str OW)]⟩)] [2, 5, 8] (sE rfl (sE rfl (sE rfl (sE rfl (sE rfl (sE rfl (sE rfl (sE rfl (sE rfl (sE rfl (sE rfl sE0))))))))))) (sH rfl (sH rfl (sH rfl sH0))) (by kernel_rfl)) ?_
      refine aw_condF rfl ?_
      refine aw_skip ?_
      change AW _ _ _ _ _ _
      refine aw_weak (weak_of [(7, .ptr 2 0), (13, .ptr 5 0), (19, .ptr 8 0), (127, .d (.int .i64 ((H : Nat) : Int))), (128, .d (.int .i64 ((j : Nat) : Int))), (21, .d (.int .i64 ((j : Nat) : Int))), (132, .d (.int .i64 ((W : Nat) : Int))), (133, .d (.int .i64 ((i : Nat) : Int))), (23, .d (.slw n 1 (intsD (row0 ⟨⟨W, H, n, 16, pl, p⟩, OD⟩ n i j)))), (25, .d (.slw n 1 (intsD (row0 ⟨⟨W, H, n, 16, pl, p⟩, OW⟩ n i j))))] [(2, some ⟨31, 7, [.d (.int .i64 ((W : Nat) : Int)), .d (.int .i64 ((H : Nat) : Int)), .d (.int .i64 ((n : Nat) : Int)), .d (.int .i64 B), .d (.bool pl0), .d (.int .i64 P0), .d (.str O)]⟩), (5, some ⟨31, 7, [.d (.int .i64 ((W : Nat) : Int)), .d (.int .i64 ((H : Nat) : Int)), .d (.int .i64 ((n : Nat) : Int)), .d (.int .i64 16), .d (.bool pl), .d (.int .i64 p), .d (.str OD)]⟩), (8, some ⟨31, 7, [.d (.int .i64 ((W : Nat) : Int)), .d (.int .i64 ((H : Nat) : Int)), .d (.int .i64 ((n : Nat) : Int)), .d (.int .i64 16), .d (.bool pl), .d (.int .i64 p), .d (.str OW)]⟩)] [2, 5, 8] (sE rfl (sE rfl (sE rfl (sE rfl (sE rfl (sE rfl (sE rfl (sE rfl (sE rfl (sE rfl sE0)))))))))) (sH rfl (sH rfl (sH rfl sH0))) (by kernel_rfl)) ?_
      refine aw_seq ?_
      refine aw_region_seq [⟨.d (.slw n 1 (intsD (row0 ⟨⟨W, H, n, 16, pl, p⟩, OD⟩ n i j))), [], [], []⟩, ⟨.d (.int .i64 ((n : Nat) : Int)), [], [], []⟩, ⟨.d (.int .i64 0), [], [], []⟩] (by kernel_rfl) (by kernel_rfl) (fun id _ => hG id) ?_ ?_
      · exact okY rfl (LT_move rfl rfl) <| okY rfl (LT_lenW rfl Try.underlying44 rfl) <| okY rfl (LT_move rfl rfl) <| okE
      change AW _ _ _ _ _ _
      refine aw_weak (weak_of [(7, .ptr 2 0), (13, .ptr 5 0), (19, .ptr 8 0), (127, .d (.int .i64 ((H : Nat) : Int))), (128, .d (.int .i64 ((j : Nat) : Int))), (21, .d (.int .i64 ((j : Nat) : Int))), (132, .d (.int .i64 ((W : Nat) : Int))), (133, .d (.int .i64 ((i : Nat) : Int))), (23, .d (.slw n 1 (intsD (row0 ⟨⟨W, H, n, 16, pl, p⟩, OD⟩ n i j)))), (25, .d (.slw n 1 (intsD (row0 ⟨⟨W, H, n, 16, pl, p⟩, OW⟩ n i j)))), (171, .d (.int .i64 ((n : Nat) : Int))), (172, .d (.int .i64 0))] [(2, some ⟨31, 7, [.d (.int .i64 ((W : Nat) : Int)), .d (.int .i64 ((H : Nat) : Int)), .d (.int .i64 ((n : Nat) : Int)), .d (.int .i64 B), .d (.bool pl0), .d (.int .i64 P0), .d (.str O)]⟩), (5, some ⟨31, 7, [.d (.int .i64 ((W : Nat) : Int)), .d (.int .i64 ((H : Nat) : Int)), .d (.int .i64 ((n : Nat) : Int)), .d (.int .i64 16), .d (.bool pl), .d (.int .i64 p), .d (.str OD)]⟩), (8, some ⟨31, 7, [.d (.int .i64 ((W : Nat) : Int)), .d (.int .i64 ((H : Nat) : Int)), .d (.int .i64 ((n : Nat) : Int)), .d (.int .i64 16), .d (.bool pl), .d (.int .i64 p), .d (.str OW)]⟩)] [2, 5, 8] (sE rfl (sE rfl (sE rfl (sE rfl (sE rfl (sE rfl (sE rfl (sE rfl (sE rfl (sE rfl (sE rfl (sE rfl sE0)))))))))))) (sH rfl (sH rfl (sH rfl sH0))) (by kernel_rfl)) ?_
      refine aw_block ?_
      refine aw_loopJ (fun k => ⟨[(7, .ptr 2 0), (13, .ptr 5 0), (19, .ptr 8 0), (127, .d (.int .i64 ((H : Nat) : Int))), (128, .d (.int .i64 ((j : Nat) : Int))), (21, .d (.int .i64 ((j : Nat) : Int))), (132, .d (.int .i64 ((W : Nat) : Int))), (133, .d (.int .i64 ((i : Nat) : Int))), (23, .d (.slw n 1 (intsD (row0 ⟨⟨W, H, n, 16, pl, p⟩, OD⟩ n i j)))), (25, .d (.slw n 1 (intsD (row0 ⟨⟨W, H, n, 16, pl, p⟩, OW⟩ n i j)))), (171, .d (.int .i64 ((n : Nat) : Int))), (172, .d (.int .i64 ((k : Nat) : Int)))], [(2, some ⟨31, 7, [.d (.int .i64 ((W : Nat) : Int)), .d (.int .i64 ((H : Nat) : Int)), .d (.int .i64 ((n : Nat) : Int)), .d (.int .i64 B), .d (.bool pl0), .d (.int .i64 P0), .d (.str O)]⟩), (5, some ⟨31, 7, [.d (.int .i64 ((W : Nat) : Int)), .d (.int .i64 ((H : Nat) : Int)), .d (.int .i64 ((n : Nat) : Int)), .d (.int .i64 16), .d (.bool pl), .d (.int .i64 p), .d (.str OD)]⟩), (8, some ⟨31, 7, [.d (.int .i64 ((W : Nat) : Int)), .d (.int .i64 ((H : Nat) : Int)), .d (.int .i64 ((n : Nat) : Int)), .d (.int .i64 16), .d (.bool pl), .d (.int .i64 p), .d (.str OW)]⟩)], [2, 5, 8]⟩) (fun k => k ≤ n) (fun k => n - k) 0 (Nat.zero_le _) ?_ ?_
      · exact weak_of _ _ _ (sE rfl (sE rfl (sE rfl (sE rfl (sE rfl (sE rfl (sE rfl (sE rfl (sE rfl (sE rfl (sE rfl (sE rfl sE0)))))))))))) (sH rfl (sH rfl (sH rfl sH0))) (by kernel_rfl)
      intro k hJ2
      refine aw_seq ?_
      refine aw_region_seq [⟨.d (.bool (decide ((((k : Nat) : Int) : Int) < ((n : Nat) : Int)))), [], [], []⟩] (by kernel_rfl) (by kernel_rfl) (fun id _ => hG id) ?_ ?_
      · exact okY rfl (LT_cmp rfl rfl rfl rfl rfl) <| okE
      change AW _ _ _ _ _ _
      refine aw_weak (weak_of [(7, .ptr 2 0), (13, .ptr 5 0), (19, .ptr 8 0), (127, .d (.int .i64 ((H : Nat) : Int))), (128, .d (.int .i64 ((j : Nat) : Int))), (21, .d (.int .i64 ((j : Nat) : Int))), (132, .d (.int .i64 ((W : Nat) : Int))), (133, .d (.int .i64 ((i : Nat) : Int))), (23, .d (.slw n 1 (intsD (row0 ⟨⟨W, H, n, 16, pl, p⟩, OD⟩ n i j)))), (25, .d (.slw n 1 (intsD (row0 ⟨⟨W, H, n, 16, pl, p⟩, OW⟩ n i j)))), (171, .d (.int .i64 ((n : Nat) : Int))), (172, .d (.int .i64 ((k : Nat) : Int))), (173, .d (.bool (decide ((((k : Nat) : Int) : Int) < ((n : Nat) : Int)))))] [(2, some ⟨31, 7, [.d (.int .i64 ((W : Nat) : Int)), .d (.int .i64 ((H : Nat) : Int)), .d (.int .i64 ((n : Nat) : Int)), .d (.int .i64 B), .d (.bool pl0), .d (.int .i64 P0), .d (.str O)]⟩), (5, some ⟨31, 7, [.d (.int .i64 ((W : Nat) : Int)), .d (.int .i64 ((H : Nat) : Int)), .d (.int .i64 ((n : Nat) : Int)), .d (.int .i64 16), .d (.bool pl), .d (.int .i64 p), .d (.str OD)]⟩), (8, some ⟨31, 7, [.d (.int .i64 ((W : Nat) : Int)), .d (.int .i64 ((H : Nat) : Int)), .d (.int .i64 ((n : Nat) : Int)), .d (.int .i64 16), .d (.bool pl), .d (.int .i64 p), .d (.str OW)]⟩)] [2, 5, 8] (sE rfl (sE rfl (sE rfl (sE rfl (sE rfl (sE rfl (sE rfl (sE rfl (sE rfl (sE rfl (sE rfl (sE rfl (sE rfl sE0))))))))))))) (sH rfl (sH rfl (sH rfl sH0))) (by kernel_rfl)) ?_
      refine aw_seq ?_
      refine aw_cond (decide ((((k : Nat) : Int) : Int) < ((n : Nat) : Int))) rfl (fun hb3 => ?_) (fun hb3 => ?_)
      ·
        replace hb3 := of_decide_eq_true hb3
        refine aw_skip ?_
        change AW _ _ _ _ _ _
        refine aw_weak (weak_of [(7, .ptr 2 0), (13, .ptr 5 0), (19, .ptr 8 0), (127, .d (.int .i64 ((H : Nat) : Int))), (128, .d (.int .i64 ((j : Nat) : Int))), (21, .d (.int .i64 ((j : Nat) : Int))), (132, .d (.int .i64 ((W : Nat) : Int))), (133, .d (.int .i64 ((i : Nat) : Int))), (23, .d (.slw n 1 (intsD (row0 ⟨⟨W, H, n, 16, pl, p⟩, OD⟩ n i j)))), (25, .d (.slw n 1 (intsD (row0 ⟨⟨W, H, n, 16, pl, p⟩, OW⟩ n i j)))), (171, .d (.int .i64 ((n : Nat) : Int))), (172, .d (.int .i64 ((k : Nat) : Int)))] [(2, some ⟨31, 7, [.d (.int .i64 ((W : Nat) : Int)), .d (.int .i64 ((H : Nat) : Int)), .d (.int .i64 ((n : Nat) : Int)), .d (.int .i64 B), .d (.bool pl0), .d (.int .i64 P0), .d (.str O)]⟩), (5, some ⟨31, 7, [.d (.int .i64 ((W : Nat) : Int)), .d (.int .i64 ((H : Nat) : Int)), .d (.int .i64 ((n : Nat) : Int)), .d (.int .i64 16), .d (.bool pl), .d (.int .i64 p), .d (.str OD)]⟩), (8, some ⟨31, 7, [.d (.int .i64 ((W : Nat) : Int)), .d (.int .i64 ((H : Nat) : Int)), .d (.int .i64 ((n : Nat) : Int)), .d (.int .i64 16), .d (.bool pl), .d (.int .i64 p), .d (.str OW)]⟩)] [2, 5, 8] (sE rfl (sE rfl (sE rfl (sE rfl (sE rfl (sE rfl (sE rfl (sE rfl (sE rfl (sE rfl (sE rfl (sE rfl sE0)))))))))))) (sH rfl (sH rfl (sH rfl sH0))) (by kernel_rfl)) ?_
        refine aw_seq ?_
        refine aw_block ?_
        refine aw_seq ?_
        refine aw_region_seq [⟨.d (.int .i64 ((k : Nat) : Int)), [], [], []⟩, ⟨.d (.int .i64 ((k : Nat) : Int)), [], [], []⟩] (by kernel_rfl) (by kernel_rfl) (fun id _ => hG id) ?_ ?_
        · exact okY rfl (LT_move rfl rfl) <| okY rfl (LT_assign rfl rfl) <| okE
        change AW _ _ _ _ _ _
        refine aw_weak (weak_of [(7, .ptr 2 0), (13, .ptr 5 0), (19, .ptr 8 0), (127, .d (.int .i64 ((H : Nat) : Int))), (128, .d (.int .i64 ((j : Nat) : Int))), (21, .d (.int .i64 ((j : Nat) : Int))), (132, .d (.int .i64 ((W : Nat) : Int))), (133, .d (.int .i64 ((i : Nat) : Int))), (23, .d (.slw n 1 (intsD (row0 ⟨⟨W, H, n, 16, pl, p⟩, OD⟩ n i j)))), (25, .d (.slw n 1 (intsD (row0 ⟨⟨W, H, n, 16, pl, p⟩, OW⟩ n i j)))), (171, .d (.int .i64 ((n : Nat) : Int))), (172, .d (.int .i64 ((k : Nat) : Int))), (27, .d (.int .i64 ((k : Nat) : Int)))] [(2, some ⟨31, 7, [.d (.int .i64 ((W : Nat) : Int)), .d (.int .i64 ((H : Nat) : Int)), .d (.int .i64 ((n : Nat) : Int)), .d (.int .i64 B), .d (.bool pl0), .d (.int .i64 P0), .d (.str O)]⟩), (5, some ⟨31, 7, [.d (.int .i64 ((W : Nat) : Int)), .d (.int .i64 ((H : Nat) : Int)), .d (.int .i64 ((n : Nat) : Int)), .d (.int .i64 16), .d (.bool pl), .d (.int .i64 p), .d (.str OD)]⟩), (8, some ⟨31, 7, [.d (.int .i64 ((W : Nat) : Int)), .d (.int .i64 ((H : Nat) : Int)), .d (.int .i64 ((n : Nat) : Int)), .d (.int .i64 16), .d (.bool pl), .d (.int .i64 p), .d (.str OW)]⟩)] [2, 5, 8] (sE rfl (sE rfl (sE rfl (sE rfl (sE rfl (sE rfl (sE rfl (sE rfl (sE rfl (sE rfl (sE rfl (sE rfl (sE rfl sE0))))))))))))) (sH rfl (sH rfl (sH rfl sH0))) (by kernel_rfl)) ?_
        refine aw_seq ?_
        have hfar := hfr i j k (by omega) (by omega) (by omega)
        have hbd := hbb i j k
        refine aw_region_any rfl [⟨.d (.slw n 1 (intsD (row0 ⟨⟨W, H, n, 16, pl, p⟩, OD⟩ n i j))), [], [], []⟩, ⟨.d (.int .i64 ((k : Nat) : Int)), [], [], []⟩, ⟨.dptr [.int .i64 (Im.fn (⟨⟨W, H, n, 16, pl, p⟩, OD⟩ : Im) i j k)], [], [], []⟩, ⟨.d (.int .i64 (Im.fn (⟨⟨W, H, n, 16, pl, p⟩, OD⟩ : Im) i j k)), [], [], []⟩, ⟨.d (.slw n 1 (intsD (row0 ⟨⟨W, H, n, 16, pl, p⟩, OW⟩ n i j))), [], [], []⟩, ⟨.d (.int .i64 ((k : Nat) : Int)), [], [], []⟩, ⟨.dptr [.int .i64 (Im.fn (⟨⟨W, H, n, 16, pl, p⟩, OW⟩ : Im) i j k)], [], [], []⟩, ⟨.d (.int .i64 (Im.fn (⟨⟨W, H, n, 16, pl, p⟩, OW⟩ : Im) i j k)), [], [], []⟩, ⟨.d (.int .i64 ((Im.fn (⟨⟨W, H, n, 16, pl, p⟩, OD⟩ : Im) i j k) - (Im.fn (⟨⟨W, H, n, 16, pl, p⟩, OW⟩ : Im) i j k))), [], [], []⟩, ⟨.d (.int .i64 ((Im.fn (⟨⟨W, H, n, 16, pl, p⟩, OD⟩ : Im) i j k) - (Im.fn (⟨⟨W, H, n, 16, pl, p⟩, OW⟩ : Im) i j k))), [], [], []⟩] (by kernel_rfl) (by kernel_rfl) (by kernel_rfl) (fun id _ => hG id) ?_ ?_
        · exact okY rfl (LT_move rfl rfl) <| okY rfl (LT_move rfl rfl) <| okY rfl (LT_indexW rfl rfl rfl Try.underlying44 inf3 rfl (by omega) (by omega) (intsD_at (row0_at (⟨⟨W, H, n, 16, pl, p⟩, OD⟩ : Im) n i j k (by omega)))) <| okY rfl (LT_loadD 1 rfl rfl Try.underlying3 inf3 (by simp) (.inr ⟨rfl, rfl, rfl⟩)) <| okY rfl (LT_move rfl rfl) <| okY rfl (LT_move rfl rfl) <| okY rfl (LT_indexW rfl rfl rfl Try.underlying44 inf3 rfl (by omega) (by omega) (intsD_at (row0_at (⟨⟨W, H, n, 16, pl, p⟩, OW⟩ : Im) n i j k (by omega)))) <| okY rfl (LT_loadD 1 rfl rfl Try.underlying3 inf3 (by simp) (.inr ⟨rfl, rfl, rfl⟩)) <| okY rfl (LT_sub rfl rfl rfl (wi64 (by omega) (by omega))) <| okY rfl (LT_assign rfl rfl) <| okE
        change AW _ _ _ _ _ _
        refine aw_weak (weak_of [(7, .ptr 2 0), (13, .ptr 5 0), (19, .ptr 8 0), (127, .d (.int .i64 ((H : Nat) : Int))), (128, .d (.int .i64 ((j : Nat) : Int))), (21, .d (.int .i64 ((j : Nat) : Int))), (132, .d (.int .i64 ((W : Nat) : Int))), (133, .d (.int .i64 ((i : Nat) : Int))), (23, .d (.slw n 1 (intsD (row0 ⟨⟨W, H, n, 16, pl, p⟩, OD⟩ n i j)))), (25, .d (.slw n 1 (intsD (row0 ⟨⟨W, H, n, 16, pl, p⟩, OW⟩ n i j)))), (171, .d (.int .i64 ((n : Nat) : Int))), (172, .d (.int .i64 ((k : Nat) : Int))), (28, .d (.int .i64 ((Im.fn (⟨⟨W, H, n, 16, pl, p⟩, OD⟩ : Im) i j k) - (Im.fn (⟨⟨W, H, n, 16, pl, p⟩, OW⟩ : Im) i j k))))] [(2, some ⟨31, 7, [.d (.int .i64 ((W : Nat) : Int)), .d (.int .i64 ((H : Nat) : Int)), .d (.int .i64 ((n : Nat) : Int)), .d (.int .i64 B), .d (.bool pl0), .d (.int .i64 P0), .d (.str O)]⟩), (5, some ⟨31, 7, [.d (.int .i64 ((W : Nat) : Int)), .d (.int .i64 ((H : Nat) : Int)), .d (.int .i64 ((n : Nat) : Int)), .d (.int .i64 16), .d (.bool pl), .d (.int .i64 p), .d (.str OD)]⟩), (8, some ⟨31, 7, [.d (.int .i64 ((W : Nat) : Int)), .d (.int .i64 ((H : Nat) : Int)), .d (.int .i64 ((n : Nat) : Int)), .d (.int .i64 16), .d (.bool pl), .d (.int .i64 p), .d (.str OW)]⟩)] [2, 5, 8] (sE rfl (sE rfl (sE rfl (sE rfl (sE rfl (sE rfl (sE rfl (sE rfl (sE rfl (sE rfl (sE rfl (sE rfl (sE rfl sE0))))))))))))) (sH rfl (sH rfl (sH rfl sH0))) (by kernel_rfl)) ?_
        refine aw_seq ?_
        refine aw_region_seq [⟨.d (.int .i64 ((Im.fn (⟨⟨W, H, n, 16, pl, p⟩, OD⟩ : Im) i j k) - (Im.fn (⟨⟨W, H, n, 16, pl, p⟩, OW⟩ : Im) i j k))), [], [], []⟩, ⟨.d (.bool (decide ((((Im.fn (⟨⟨W, H, n, 16, pl, p⟩, OD⟩ : Im) i j k) - (Im.fn (⟨⟨W, H, n, 16, pl, p⟩, OW⟩ : Im) i j k)) : Int) < -128))), [], [], []⟩, ⟨.d (.bool (decide ((((Im.fn (⟨⟨W, H, n, 16, pl, p⟩, OD⟩ : Im) i j k) - (Im.fn (⟨⟨W, H, n, 16, pl, p⟩, OW⟩ : Im) i j k)) : Int) < -128))), [], [], []⟩, ⟨.opt ((decide ((((Im.fn (⟨⟨W, H, n, 16, pl, p⟩, OD⟩ : Im) i j k) - (Im.fn (⟨⟨W, H, n, 16, pl, p⟩, OW⟩ : Im) i j k)) : Int) < -128)) == false) (.d (.int .i64 ((Im.fn (⟨⟨W, H, n, 16, pl, p⟩, OD⟩ : Im) i j k) - (Im.fn (⟨⟨W, H, n, 16, pl, p⟩, OW⟩ : Im) i j k)))), [], [], []⟩, ⟨.opt ((decide ((((Im.fn (⟨⟨W, H, n, 16, pl, p⟩, OD⟩ : Im) i j k) - (Im.fn (⟨⟨W, H, n, 16, pl, p⟩, OW⟩ : Im) i j k)) : Int) < -128)) == false) (.d (.bool (decide ((128 : Int) < ((Im.fn (⟨⟨W, H, n, 16, pl, p⟩, OD⟩ : Im) i j k) - (Im.fn (⟨⟨W, H, n, 16, pl, p⟩, OW⟩ : Im) i j k)))))), [], [], []⟩, ⟨.d (.bool ((decide ((((Im.fn (⟨⟨W, H, n, 16, pl, p⟩, OD⟩ : Im) i j k) - (Im.fn (⟨⟨W, H, n, 16, pl, p⟩, OW⟩ : Im) i j k)) : Int) < -128)) || (decide ((128 : Int) < ((Im.fn (⟨⟨W, H, n, 16, pl, p⟩, OD⟩ : Im) i j k) - (Im.fn (⟨⟨W, H, n, 16, pl, p⟩, OW⟩ : Im) i j k)))))), [], [], []⟩] (by kernel_rfl) (by kernel_rfl) (fun id _ => hG id) ?_ ?_
        · exact okY rfl (LT_move rfl rfl) <| okY rfl (LT_cmp rfl rfl rfl rfl rfl) <| okY rfl (LT_move rfl rfl) <| okG ((decide ((((Im.fn (⟨⟨W, H, n, 16, pl, p⟩, OD⟩ : Im) i j k) - (Im.fn (⟨⟨W, H, n, 16, pl, p⟩, OW⟩ : Im) i j k)) : Int) < -128)) == false) rfl (fun hg => (LT_move rfl rfl)) <| okG ((decide ((((Im.fn (⟨⟨W, H, n, 16, pl, p⟩, OD⟩ : Im) i j k) - (Im.fn (⟨⟨W, H, n, 16, pl, p⟩, OW⟩ : Im) i j k)) : Int) < -128)) == false) rfl (fun hg => (LT_cmp rfl rfl (opnT rfl hg) rfl rfl)) <| okY rfl (LT_por rfl rfl rfl (fun h => by rw [h]; rfl)) <| okE
        change AW _ _ _ _ _ _
        refine aw_weak (weak_of [(7, .ptr 2 0), (13, .ptr 5 0), (19, .ptr 8 0), (127, .d (.int .i64 ((H : Nat) : Int))), (128, .d (.int .i64 ((j : Nat) : Int))), (21, .d (.int .i64 ((j : Nat) : Int))), (132, .d (.int .i64 ((W : Nat) : Int))), (133, .d (.int .i64 ((i : Nat) : Int))), (23, .d (.slw n 1 (intsD (row0 ⟨⟨W, H, n, 16, pl, p⟩, OD⟩ n i j)))), (25, .d (.slw n 1 (intsD (row0 ⟨⟨W, H, n, 16, pl, p⟩, OW⟩ n i j)))), (171, .d (.int .i64 ((n : Nat) : Int))), (172, .d (.int .i64 ((k : Nat) : Int))), (189, .d (.bool ((decide ((((Im.fn (⟨⟨W, H, n, 16, pl, p⟩, OD⟩ : Im) i j k) - (Im.fn (⟨⟨W, H, n, 16, pl, p⟩, OW⟩ : Im) i j k)) : Int) < -128)) || (decide ((128 : Int) < ((Im.fn (⟨⟨W, H, n, 16, pl, p⟩, OD⟩ : Im) i j k) - (Im.fn (⟨⟨W, H, n, 16, pl, p⟩, OW⟩ : Im) i j k)))))))] [(2, some ⟨31, 7, [.d (.int .i64 ((W : Nat) : Int)), .d (.int .i64 ((H : Nat) : Int)), .d (.int .i64 ((n : Nat) : Int)), .d (.int .i64 B), .d (.bool pl0), .d (.int .i64 P0), .d (.str O)]⟩), (5, some ⟨31, 7, [.d (.int .i64 ((W : Nat) : Int)), .d (.int .i64 ((H : Nat) : Int)), .d (.int .i64 ((n : Nat) : Int)), .d (.int .i64 16), .d (.bool pl), .d (.int .i64 p), .d (.str OD)]⟩), (8, some ⟨31, 7, [.d (.int .i64 ((W : Nat) : Int)), .d (.int .i64 ((H : Nat) : Int)), .d (.int .i64 ((n : Nat) : Int)), .d (.int .i64 16), .d (.bool pl), .d (.int .i64 p), .d (.str OW)]⟩)] [2, 5, 8] (sE rfl (sE rfl (sE rfl (sE rfl (sE rfl (sE rfl (sE rfl (sE rfl (sE rfl (sE rfl (sE rfl (sE rfl (sE rfl sE0))))))))))))) (sH rfl (sH rfl (sH rfl sH0))) (by kernel_rfl)) ?_
        refine aw_cond ((decide ((((Im.fn (⟨⟨W, H, n, 16, pl, p⟩, OD⟩ : Im) i j k) - (Im.fn (⟨⟨W, H, n, 16, pl, p⟩, OW⟩ : Im) i j k)) : Int) < -128)) || (decide ((128 : Int) < ((Im.fn (⟨⟨W, H, n, 16, pl, p⟩, OD⟩ : Im) i j k) - (Im.fn (⟨⟨W, H, n, 16, pl, p⟩, OW⟩ : Im) i j k))))) rfl (fun hb4 => ?_) (fun hb4 => ?_)
        ·
          exfalso
          simp only [Bool.or_eq_true, decide_eq_true_eq] at hb4
          omega
        ·
          refine aw_skip ?_
          change AW _ _ _ _ _ _
          refine aw_weak (weak_of [(7, .ptr 2 0), (13, .ptr 5 0), (19, .ptr 8 0), (127, .d (.int .i64 ((H : Nat) : Int))), (128, .d (.int .i64 ((j : Nat) : Int))), (21, .d (.int .i64 ((j : Nat) : Int))), (132, .d (.int .i64 ((W : Nat) : Int))), (133, .d (.int .i64 ((i : Nat) : Int))), (23, .d (.slw n 1 (intsD (row0 ⟨⟨W, H, n, 16, pl, p⟩, OD⟩ n i j)))), (25, .d (.slw n 1 (intsD (row0 ⟨⟨W, H, n, 16, pl, p⟩, OW⟩ n i j)))), (171, .d (.int .i64 ((n : Nat) : Int))), (172, .d (.int .i64 ((k : Nat) : Int)))] [(2, some ⟨31, 7, [.d (.int .i64 ((W : Nat) : Int)), .d (.int .i64 ((H : Nat) : Int)), .d (.int .i64 ((n : Nat) : Int)), .d (.int .i64 B), .d (.bool pl0), .d (.int .i64 P0), .d (.str O)]⟩), (5, some ⟨31, 7, [.d (.int .i64 ((W : Nat) : Int)), .d (.int .i64 ((H : Nat) : Int)), .d (.int .i64 ((n : Nat) : Int)), .d (.int .i64 16), .d (.bool pl), .d (.int .i64 p), .d (.str OD)]⟩), (8, some ⟨31, 7, [.d (.int .i64 ((W : Nat) : Int)), .d (.int .i64 ((H : Nat) : Int)), .d (.int .i64 ((n : Nat) : Int)), .d (.int .i64 16), .d (.bool pl), .d (.int .i64 p), .d (.str OW)]⟩)] [2, 5, 8] (sE rfl (sE rfl (sE rfl (sE rfl (sE rfl (sE rfl (sE rfl (sE rfl (sE rfl (sE rfl (sE rfl (sE rfl sE0)))))))))))) (sH rfl (sH rfl (sH rfl sH0))) (by kernel_rfl)) ?_
          refine aw_region_seq [⟨.d (.int .i64 (((k : Nat) : Int) + 1)), [], [], []⟩, ⟨.d (.int .i64 (((k : Nat) : Int) + 1)), [], [], []⟩] (by kernel_rfl) (by kernel_rfl) (fun id _ => hG id) ?_ ?_
          · exact okY rfl (LT_add rfl rfl rfl (wi64 (by omega) (by omega))) <| okY rfl (LT_move rfl rfl) <| okE
          exact ⟨(k + 1), by omega, by omega, weak_of _ _ _ (sE rfl (sE rfl (sE rfl (sE rfl (sE rfl (sE rfl (sE rfl (sE rfl (sE rfl (sE rfl (sE rfl (sE rfl sE0)))))))))))) (sH rfl (sH rfl (sH rfl sH0))) (by kernel_rfl)⟩
      ·
        replace hb3 := of_decide_eq_false hb3
        refine aw_exit ?_
        change AW _ _ _ _ _ _
        refine aw_weak (weak_of [(7, .ptr 2 0), (13, .ptr 5 0), (19, .ptr 8 0), (127, .d (.int .i64 ((H : Nat) : Int))), (128, .d (.int .i64 ((j : Nat) : Int))), (21, .d (.int .i64 ((j : Nat) : Int))), (132, .d (.int .i64 ((W : Nat) : Int))), (133, .d (.int .i64 ((i : Nat) : Int)))] [(2, some ⟨31, 7, [.d (.int .i64 ((W : Nat) : Int)), .d (.int .i64 ((H : Nat) : Int)), .d (.int .i64 ((n : Nat) : Int)), .d (.int .i64 B), .d (.bool pl0), .d (.int .i64 P0), .d (.str O)]⟩), (5, some ⟨31, 7, [.d (.int .i64 ((W : Nat) : Int)), .d (.int .i64 ((H : Nat) : Int)), .d (.int .i64 ((n : Nat) : Int)), .d (.int .i64 16), .d (.bool pl), .d (.int .i64 p), .d (.str OD)]⟩), (8, some ⟨31, 7, [.d (.int .i64 ((W : Nat) : Int)), .d (.int .i64 ((H : Nat) : Int)), .d (.int .i64 ((n : Nat) : Int)), .d (.int .i64 16), .d (.bool pl), .d (.int .i64 p), .d (.str OW)]⟩)] [2, 5, 8] (sE rfl (sE rfl (sE rfl (sE rfl (sE rfl (sE rfl (sE rfl (sE rfl sE0)))))))) (sH rfl (sH rfl (sH rfl sH0))) (by kernel_rfl)) ?_
        refine aw_region_seq [⟨.d (.int .i64 (((i : Nat) : Int) + 1)), [], [], []⟩, ⟨.d (.int .i64 (((i : Nat) : Int) + 1)), [], [], []⟩] (by kernel_rfl) (by kernel_rfl) (fun id _ => hG id) ?_ ?_
        · exact okY rfl (LT_add rfl rfl rfl (wi64 (by omega) (by omega))) <| okY rfl (LT_move rfl rfl) <| okE
        exact ⟨(i + 1), by omega, by omega, weak_of _ _ _ (sE rfl (sE rfl (sE rfl (sE rfl (sE rfl (sE rfl (sE rfl (sE rfl sE0)))))))) (sH rfl (sH rfl (sH rfl sH0))) (by kernel_rfl)⟩
    ·
      replace hb2 := of_decide_eq_false hb2
      refine aw_exit ?_
      change AW _ _ _ _ _ _
      refine aw_weak (weak_of [(7, .ptr 2 0), (13, .ptr 5 0), (19, .ptr 8 0), (127, .d (.int .i64 ((H : Nat) : Int))), (128, .d (.int .i64 ((j : Nat) : Int)))] [(2, some ⟨31, 7, [.d (.int .i64 ((W : Nat) : Int)), .d (.int .i64 ((H : Nat) : Int)), .d (.int .i64 ((n : Nat) : Int)), .d (.int .i64 B), .d (.bool pl0), .d (.int .i64 P0), .d (.str O)]⟩), (5, some ⟨31, 7, [.d (.int .i64 ((W : Nat) : Int)), .d (.int .i64 ((H : Nat) : Int)), .d (.int .i64 ((n : Nat) : Int)), .d (.int .i64 16), .d (.bool pl), .d (.int .i64 p), .d (.str OD)]⟩), (8, some ⟨31, 7, [.d (.int .i64 ((W : Nat) : Int)), .d (.int .i64 ((H : Nat) : Int)), .d (.int .i64 ((n : Nat) : Int)), .d (.int .i64 16), .d (.bool pl), .d (.int .i64 p), .d (.str OW)]⟩)] [2, 5, 8] (sE rfl (sE rfl (sE rfl (sE rfl (sE rfl sE0))))) (sH rfl (sH rfl (sH rfl sH0))) (by kernel_rfl)) ?_
      refine aw_region_seq [⟨.d (.int .i64 (((j : Nat) : Int) + 1)), [], [], []⟩, ⟨.d (.int .i64 (((j : Nat) : Int) + 1)), [], [], []⟩] (by kernel_rfl) (by kernel_rfl) (fun id _ => hG id) ?_ ?_
      · exact okY rfl (LT_add rfl rfl rfl (wi64 (by omega) (by omega))) <| okY rfl (LT_move rfl rfl) <| okE
      exact ⟨(j + 1), by omega, by omega, weak_of _ _ _ (sE rfl (sE rfl (sE rfl (sE rfl (sE rfl sE0))))) (sH rfl (sH rfl (sH rfl sH0))) (by kernel_rfl)⟩
  ·
    replace hb1 := of_decide_eq_false hb1
    refine aw_exit ?_
    change AW _ _ _ _ _ _
    refine aw_weak (weak_of [] [] [] sE0 sH0 (by kernel_rfl)) ?_
    refine aw_seq ?_
    refine aw_region_seq [⟨.d (.bool true), [], [], []⟩] (by kernel_rfl) (by kernel_rfl) (fun id _ => hG id) ?_ ?_
    · exact okY rfl (LT_assign rfl rfl) <| okE
    change AW _ _ _ _ _ _
    refine aw_weak (weak_of [(6, .d (.bool true))] [] [] (sE rfl sE0) sH0 (by kernel_rfl)) ?_
    refine aw_ret ?_
    refine fin1 (x := .d (.bool true)) (.inl rfl) Try.results6 rfl ?_
    exact rfl

end Go.Proofs.Ytphfbjeaklpddaa

/- Layer 42, the rows: arguments opened. -/
namespace Go.Proofs.Ytphfbjeaklpddaa
open Go.ChangeShapes Go.WideShapes Go.ChangeAt Go.RowKit

theorem take1 {cs : List Value} {k : Nat} {c : Value} (h : (cs.drop k).take 1 = [c]) : cs[k]? = some c := by
  have : ((cs.drop k).take 1)[0]? = some c := by rw [h]; rfl
  rw [List.getElem?_take_of_lt (by omega), List.getElem?_drop] at this
  simpa using this

set_option maxRecDepth 100000 in
theorem open_dr {H : Type} {enc : TypeId × Value → H} {W : World} {base base' : Nat} {r : Reach} {v : Value} {d : DataW H} {p : List MemPlace}
    (hv : Value.okWide Try.prog W r base' 24 v) (h : DataW.Trod enc Try.prog W base (fun _ => true) true 24 v d p) :
    ∃ (D : Dr) (a : Option Addr) (cap : Nat), v = D.v a cap ∧ D.ok ∧ U16s W a D.vs := by
  have hs := Try.underlying24
  obtain ⟨cs, rfl, hsz⟩ := okWide_struct hs hv
  obtain ⟨fuel, hf⟩ := h
  obtain ⟨xs, n, _, _, _, hxl, hall⟩ := DataW.trod_struct hs hf
  have hsz7 : cs.size = 7 := hsz.trans (by kernel_rfl)
  have hx7 : xs.length = 7 := hxl
  obtain ⟨x0, x1, x2, x3, x4, x5, x6, rfl⟩ : ∃ x0 x1 x2 x3 x4 x5 x6, xs = [x0, x1, x2, x3, x4, x5, x6] := by
    match xs, hx7 with
    | [x0, x1, x2, x3, x4, x5, x6], _ => exact ⟨x0, x1, x2, x3, x4, x5, x6, rfl⟩
  obtain ⟨c0, c1, c2, c3, c4, c5, c6, hcs⟩ : ∃ c0 c1 c2 c3 c4 c5 c6, cs = #[c0, c1, c2, c3, c4, c5, c6] := by
    obtain ⟨l⟩ := cs
    have hl : l.length = 7 := hsz7
    match l, hl with
    | [c0, c1, c2, c3, c4, c5, c6], _ => exact ⟨c0, c1, c2, c3, c4, c5, c6, rfl⟩
  subst hcs
  have k5 : Try.prog.cellsOf 5 = 1 := by kernel_rfl
  have k4 : Try.prog.cellsOf 4 = 1 := by kernel_rfl
  have k22 : Try.prog.cellsOf 22 = 1 := by kernel_rfl
  have k45 : Try.prog.cellsOf 45 = 1 := by kernel_rfl
  have g0 : DataW.trod enc Try.prog W base (fun _ => true) true n 5 [c0] = some x0 := by
    have h := hall 0 _ rfl
    simpa [Value.cells, k5, k4, k22] using h
  have g1 : DataW.trod enc Try.prog W base (fun _ => true) true n 5 [c1] = some x1 := by
    have h := hall 1 _ rfl
    simpa [Value.cells, k5, k4, k22] using h
  have g2 : DataW.trod enc Try.prog W base (fun _ => true) true n 5 [c2] = some x2 := by
    have h := hall 2 _ rfl
    simpa [Value.cells, k5, k4, k22] using h
  have g3 : DataW.trod enc Try.prog W base (fun _ => true) true n 5 [c3] = some x3 := by
    have h := hall 3 _ rfl
    simpa [Value.cells, k5, k4, k22] using h
  have g4 : DataW.trod enc Try.prog W base (fun _ => true) true n 4 [c4] = some x4 := by
    have h := hall 4 _ rfl
    simpa [Value.cells, k5, k4, k22] using h
  have g5 : DataW.trod enc Try.prog W base (fun _ => true) true n 4 [c5] = some x5 := by
    have h := hall 5 _ rfl
    simpa [Value.cells, k5, k4, k22] using h
  have g6 : DataW.trod enc Try.prog W base (fun _ => true) true n 22 [c6] = some x6 := by
    have h := hall 6 _ rfl
    simpa [Value.cells, k5, k4, k22] using h
  clear hall hf hv
  obtain ⟨n0, e0, -, wf0⟩ := DataW.trod_int Try.underlying5 g0
  cases e0
  have b0 := bounds_u8 wf0
  obtain ⟨n1, e1, -, wf1⟩ := DataW.trod_int Try.underlying5 g1
  cases e1
  have b1 := bounds_u8 wf1
  obtain ⟨n2, e2, -, wf2⟩ := DataW.trod_int Try.underlying5 g2
  cases e2
  have b2 := bounds_u8 wf2
  obtain ⟨n3, e3, -, wf3⟩ := DataW.trod_int Try.underlying5 g3
  cases e3
  have b3 := bounds_u8 wf3
  obtain ⟨n4, e4, -⟩ := DataW.trod_bool Try.underlying4 g4
  cases e4
  obtain ⟨n5, e5, -⟩ := DataW.trod_bool Try.underlying4 g5
  cases e5
  rcases open_ints Try.underlying22 Try.underlying45 k45 g6 with ⟨e6, -⟩ | ⟨a, len, cap, zs, e6, _, hl, hm, hz, -, hcell, hwf⟩
  · cases e6
    refine ⟨⟨n0, n1, n2, n3, n4, n5, []⟩, none, 0, rfl, ⟨b0.1, by have := b0.2; show n0 < 256; omega, b1.1, by have := b1.2; show n1 < 256; omega, b2.1, by have := b2.2; show n2 < 256; omega, b3.1, by have := b3.2; show n3 < 256; omega, by simp, Nat.zero_le _⟩, fun h => absurd rfl h⟩
  · cases e6
    rw [if_pos rfl] at hz
    have hlt : (zs.take len).length = len := by rw [List.length_take]; omega
    refine ⟨⟨n0, n1, n2, n3, n4, n5, zs.take len⟩, some a, cap, ?_, ⟨b0.1, by have := b0.2; show n0 < 256; omega, b1.1, by have := b1.2; show n1 < 256; omega, b2.1, by have := b2.2; show n2 < 256; omega, b3.1, by have := b3.2; show n3 < 256; omega, ?_, by show (zs.take len).length ≤ maxLen; omega⟩, ?_⟩
    · unfold Dr.v
      dsimp only
      rw [hlt]
    · intro v hv
      have := bounds_u16 (hwf v (List.mem_of_mem_take hv))
      omega
    · intro hne
      have hpos : 0 < zs.length := by
        rcases Nat.eq_zero_or_pos zs.length with h | h
        · exact absurd (by show zs.take len = []; rw [List.eq_nil_of_length_eq_zero h, List.take_nil]) hne
        · exact h
      obtain ⟨b, off, rfl, hc⟩ := ints_at hcell hpos
      refine ⟨b, off, rfl, fun i hi => ?_⟩
      have hi' : i < len := by rw [← hlt]; exact hi
      rw [hc i (by omega)]
      simp [List.getD, hi']

set_option maxRecDepth 100000 in
theorem open_u8x2 {H : Type} {enc : TypeId × Value → H} {W : World} {base base' : Nat} {r : Reach} {v : Value} {d : DataW H} {p : List MemPlace}
    (hv : Value.okWide Try.prog W r base' 43 v) (h : DataW.Trod enc Try.prog W base (fun _ => true) true 43 v d p) :
    ∃ n0 n1 : Int, v = .agg #[.int .u8 n0, .int .u8 n1] ∧ (0 ≤ n0 ∧ n0 < 256) ∧ (0 ≤ n1 ∧ n1 < 256) := by
  have hs := Try.underlying43
  have ke : Try.prog.cellsOf 5 = 1 := by kernel_rfl
  obtain ⟨cs, rfl, hsz⟩ : ∃ cs, v = .agg cs ∧ cs.size = Try.prog.cellsOf 43 := by
    simp only [Value.okWide, hs] at hv
    obtain ⟨cs, h1, h2, _⟩ := hv
    exact ⟨cs, h1, h2⟩
  obtain ⟨fuel, hf⟩ := h
  obtain ⟨xs, n, _, _, _, hxl, hall⟩ := DataW.trod_array hs hf
  have hszn : cs.size = 2 := hsz.trans (by kernel_rfl)
  obtain ⟨x0, x1, rfl⟩ : ∃ x0 x1, xs = [x0, x1] := by
    match xs, hxl with
    | [x0, x1], _ => exact ⟨x0, x1, rfl⟩
  obtain ⟨c0, c1, hcs⟩ : ∃ c0 c1, cs = #[c0, c1] := by
    obtain ⟨l⟩ := cs
    have hl : l.length = 2 := hszn
    match l, hl with
    | [c0, c1], _ => exact ⟨c0, c1, rfl⟩
  subst hcs
  have g0 : DataW.trod enc Try.prog W base (fun _ => true) true n 5 [c0] = some x0 := by
    have h := hall 0 (by omega)
    simpa [Value.cells, ke] using h
  obtain ⟨n0, e0, -, wf0⟩ := DataW.trod_int Try.underlying5 g0
  cases e0
  have b0 := bounds_u8 wf0
  have g1 : DataW.trod enc Try.prog W base (fun _ => true) true n 5 [c1] = some x1 := by
    have h := hall 1 (by omega)
    simpa [Value.cells, ke] using h
  obtain ⟨n1, e1, -, wf1⟩ := DataW.trod_int Try.underlying5 g1
  cases e1
  have b1 := bounds_u8 wf1
  exact ⟨n0, n1, rfl, ⟨b0.1, by omega⟩, ⟨b1.1, by omega⟩⟩

set_option maxRecDepth 100000 in
theorem open_u16x4 {H : Type} {enc : TypeId × Value → H} {W : World} {base base' : Nat} {r : Reach} {v : Value} {d : DataW H} {p : List MemPlace}
    (hv : Value.okWide Try.prog W r base' 46 v) (h : DataW.Trod enc Try.prog W base (fun _ => true) true 46 v d p) :
    ∃ n0 n1 n2 n3 : Int, v = .agg #[.int .u16 n0, .int .u16 n1, .int .u16 n2, .int .u16 n3] ∧ (0 ≤ n0 ∧ n0 < 65536) ∧ (0 ≤ n1 ∧ n1 < 65536) ∧ (0 ≤ n2 ∧ n2 < 65536) ∧ (0 ≤ n3 ∧ n3 < 65536) := by
  have hs := Try.underlying46
  have ke : Try.prog.cellsOf 45 = 1 := by kernel_rfl
  obtain ⟨cs, rfl, hsz⟩ : ∃ cs, v = .agg cs ∧ cs.size = Try.prog.cellsOf 46 := by
    simp only [Value.okWide, hs] at hv
    obtain ⟨cs, h1, h2, _⟩ := hv
    exact ⟨cs, h1, h2⟩
  obtain ⟨fuel, hf⟩ := h
  obtain ⟨xs, n, _, _, _, hxl, hall⟩ := DataW.trod_array hs hf
  have hszn : cs.size = 4 := hsz.trans (by kernel_rfl)
  obtain ⟨x0, x1, x2, x3, rfl⟩ : ∃ x0 x1 x2 x3, xs = [x0, x1, x2, x3] := by
    match xs, hxl with
    | [x0, x1, x2, x3], _ => exact ⟨x0, x1, x2, x3, rfl⟩
  obtain ⟨c0, c1, c2, c3, hcs⟩ : ∃ c0 c1 c2 c3, cs = #[c0, c1, c2, c3] := by
    obtain ⟨l⟩ := cs
    have hl : l.length = 4 := hszn
    match l, hl with
    | [c0, c1, c2, c3], _ => exact ⟨c0, c1, c2, c3, rfl⟩
  subst hcs
  have g0 : DataW.trod enc Try.prog W base (fun _ => true) true n 45 [c0] = some x0 := by
    have h := hall 0 (by omega)
    simpa [Value.cells, ke] using h
  obtain ⟨n0, e0, -, wf0⟩ := DataW.trod_int Try.underlying45 g0
  cases e0
  have b0 := bounds_u16 wf0
  have g1 : DataW.trod enc Try.prog W base (fun _ => true) true n 45 [c1] = some x1 := by
    have h := hall 1 (by omega)
    simpa [Value.cells, ke] using h
  obtain ⟨n1, e1, -, wf1⟩ := DataW.trod_int Try.underlying45 g1
  cases e1
  have b1 := bounds_u16 wf1
  have g2 : DataW.trod enc Try.prog W base (fun _ => true) true n 45 [c2] = some x2 := by
    have h := hall 2 (by omega)
    simpa [Value.cells, ke] using h
  obtain ⟨n2, e2, -, wf2⟩ := DataW.trod_int Try.underlying45 g2
  cases e2
  have b2 := bounds_u16 wf2
  have g3 : DataW.trod enc Try.prog W base (fun _ => true) true n 45 [c3] = some x3 := by
    have h := hall 3 (by omega)
    simpa [Value.cells, ke] using h
  obtain ⟨n3, e3, -, wf3⟩ := DataW.trod_int Try.underlying45 g3
  cases e3
  have b3 := bounds_u16 wf3
  exact ⟨n0, n1, n2, n3, rfl, ⟨b0.1, by omega⟩, ⟨b1.1, by omega⟩, ⟨b2.1, by omega⟩, ⟨b3.1, by omega⟩⟩

end Go.Proofs.Ytphfbjeaklpddaa

/- ImageTurns answers true. No condition. -/
namespace Go.Proofs.Ytphfbjeaklpddaa
open Go.ChangeShapes Go.WideShapes Go.ChangeAt Go.RowKit

theorem law_calls {P : Program} {f : FuncId} {xs : List X} {vs : Array Value} {w : World} (h : PC P f xs (.d (.bool true))) (hs : vs.size = xs.length) (hv : ∀ (i : Nat) v x, vs[i]? = some v → xs[i]? = some x → RV w (fun _ => False) noRho v x) :
    Calls P f vs w fun e w' => e = .returned (.bool true) ∧ Below w.heap.size w w' := by
  refine (h w (fun _ => False) vs (fun _ h => h.elim) hs hv).mono ?_
  rintro e w' ⟨v, rfl, hr, hb⟩
  rw [hr.bool_inv]
  exact ⟨rfl, hb⟩

theorem rv0 {w : World} {M : Nat → Prop} : ∀ (i : Nat) v x, (#[] : Array Value)[i]? = some v → ([] : List X)[i]? = some x → RV w M noRho v x := fun i v x h => by simp at h
theorem rvC {w : World} {M : Nat → Prop} {u : Value} {y : X} {vs : List Value} {xs : List X} (h : RV w M noRho u y) (hr : ∀ (i : Nat) v x, vs.toArray[i]? = some v → xs[i]? = some x → RV w M noRho v x) : ∀ (i : Nat) v x, (u :: vs).toArray[i]? = some v → (y :: xs)[i]? = some x → RV w M noRho v x := fun i v x hv hx => by
  cases i with
  | zero => simp at hv hx; subst hv hx; exact h
  | succ i => exact hr i v x (by simpa using hv) (by simpa using hx)

theorem im_vB (D : Dr) (hD : D.ok) : D.im.vB = true := D.some_valid hD _ (by have := hD.c0; omega) (by have := hD.c0; omega)

/-- a draft's image, in numbers -/
theorem im_nums (D : Dr) (hD : D.ok) : ∃ (W H n : Nat) (B P0 : Int) (pl0 : Bool) (O : ByteArray), D.im = ⟨⟨W, H, n, B, pl0, P0⟩, O⟩ ∧ 1 ≤ W ∧ W ≤ 64 ∧ 1 ≤ H ∧ H ≤ 64 ∧ 1 ≤ n ∧ n ≤ 4 := by
  have hok : D.im.L.ok := Im.ok (im_vB D hD)
  obtain ⟨W, hW⟩ := Int.eq_ofNat_of_zero_le (a := D.im.L.W) (by have := hok.w1; omega)
  obtain ⟨H, hH⟩ := Int.eq_ofNat_of_zero_le (a := D.im.L.H) (by have := hok.h1; omega)
  obtain ⟨n, hn⟩ := Int.eq_ofNat_of_zero_le (a := D.im.L.C) (by have := hok.c1; omega)
  have h1 := hok.w1; have h2 := hok.w2; have h3 := hok.h1; have h4 := hok.h2; have h5 := hok.c1; have h6 := hok.c2
  refine ⟨W, H, n, D.im.L.B, D.im.L.P, D.im.L.pl, D.im.O, ?_, by omega, by omega, by omega, by omega, by omega, by omega⟩
  rw [← hW, ← hH, ← hn]

theorem turns_any (D : Dr) (hD : D.ok) (a : Option Addr) (cap : Nat) (pl : Bool) (pad : Int) (w : World) (hvs : U16s w a D.vs) (hp : 0 ≤ pad ∧ pad < 256) :
    Calls Try.prog 6 #[D.v a cap, .bool pl, .int .u8 pad] w fun e w' => e = .returned (.bool true) ∧ Below w.heap.size w w' := by
  have hv := im_vB D hD
  obtain ⟨W, H, n, B, P0, pl0, O, hm, w1, w2, h1, h2, n1, n2⟩ := im_nums D hD
  have hpp : padOf pad = 1 ∨ padOf pad = 2 ∨ padOf pad = 4 ∨ padOf pad = 8 := by
    unfold padOf
    split
    · simp
    · split
      · simp
      · split <;> simp
  obtain ⟨S, DP, FL, WI, hT⟩ := turns_plain D.im hv pl (padOf pad) hpp W H n (by rw [hm]) (by rw [hm]) (by rw [hm])
  have e1 := hT.sL
  have e2 := hT.dL
  have e3 := hT.fL
  have e4 := hT.wL
  obtain ⟨LS, OS⟩ := S
  obtain ⟨LD, OD⟩ := DP
  obtain ⟨LF, OF⟩ := FL
  obtain ⟨LW, OW⟩ := WI
  dsimp only at e1 e2 e3 e4
  subst e1 e2 e3 e4
  rw [hm] at hT
  exact law_calls (turns_core D hD W H n B P0 (padOf pad) pad pl0 pl O OS OD OF OW hm hp rfl w2 h2 n2 hT) rfl (rvC (dr_rv hvs) (rvC (.d (.bool _)) (rvC (.d (.int _ _)) rv0)))


theorem imageTurns_own : ownKnob Try.prog.godebug = none := by kernel_rfl
theorem imageTurns_laid : laidOutB Try.prog = true := by kernel_rfl

set_option maxRecDepth 100000 in
theorem imageTurns_lifted (os : Os) (started : os.Started) (H : Type) (enc : TypeId × Value → H) :
    ReturnsInHanded {} Try.checked os 6 .any (Rows.imageTurnsSpec.pre6 enc Try.prog Try.f6 Rows.imageTurnsRow.domain false) (Rows.imageTurnsSpec.post enc Try.prog Try.f6 false true false false) := by
  refine returnsInHanded_of_change (C := Try.checked) imageTurns_own started (by kernel_rfl) Try.func6
    (ChangeSpec.witness6 (enc := enc) (C := Try.checked) false ⟨#[], #[.agg #[.int .u8 0, .int .u8 0, .int .u8 0, .int .u8 0, .bool false, .bool false, .slice none 0 0], .bool false, .int .u8 0], []⟩ 8 (by kernel_rfl) (by kernel_rfl) (by kernel_rfl) (by kernel_rfl)) ?_
  intro W base args ds gs before hval0 hW hcnd _
  have hval : ∀ (j : Nat) t v, Try.f6.params[j]? = some t → args[j]? = some v → Value.okWide Try.prog W .any base t v := hval0
  have hW' := hW
  obtain ⟨p, q, hA0, hV, rfl, hfz, hnd⟩ := hW
  have hA : DataW.TrodAll enc Try.prog W 0 (fun _ => true) true Try.f6.params.toList args.toList ds p := hA0
  rw [Try.params6] at hA hval
  obtain ⟨v0, v1, v2, d0, d1, d2, p0, p1, p2, rfl, rfl, rfl, h0, h1, h2⟩ := trodAll_three hA
  obtain ⟨rfl, rfl⟩ := trodVars_none hV
  obtain ⟨D, a, cap, rfl, hD, hvs⟩ := open_dr (hval 0 _ v0 rfl rfl) h0
  obtain ⟨pl, rfl, -⟩ := open_bool Try.underlying4 (hval 1 _ v1 rfl rfl) h1
  obtain ⟨pad, rfl, -, -, wfp⟩ := open_int Try.underlying5 (hval 2 _ v2 rfl rfl) h2
  have hp := bounds_u8 wfp
  clear hA0 hval0
  refine (turns_any D hD a cap pl pad W hvs (by omega)).mono fun e W' ⟨he, hw⟩ => ?_
  subst he
  exact ⟨_, rfl, law_post hW' rfl imageTurns_laid (by rw [Try.params6]; intro t ht; simp only [List.mem_cons, List.not_mem_nil, or_false] at ht; rcases ht with rfl | rfl | rfl <;> exact ⟨by kernel_rfl, of_decide_eq_true (by kernel_rfl)⟩) (bt := 4) rfl Try.underlying4 rfl rfl rfl hw⟩

theorem imageTurns_holds : Rows.ImageTurnsSaid :=
  OpenClaim.holds_of_wide 6 Try.f6 rfl rfl rfl rfl rfl rfl rfl ⟨rfl, rfl, rfl, rfl, rfl⟩ rfl rfl rfl rfl rfl (by kernel_rfl) Try.func6 (by kernel_rfl)
    (of_decide_eq_true (by kernel_rfl)) (by unfold Func.isWrapper; first | (rw [if_pos (by decide +kernel)]; kernel_rfl) | (rw [if_neg (by decide +kernel)]; exact ⟨rfl, rfl⟩))
    (fun os started H enc _ => imageTurns_lifted os started H enc)

end Go.Proofs.Ytphfbjeaklpddaa
