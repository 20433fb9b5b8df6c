/-
  Joined texts: Worded; tag.Bytes of no numbers. · An evaluator for closed runs: values by names of blocks, operations, and a machine of fram · The evaluator: what its values, blocks and slots stand for in a world. · The evaluator: operations that only read.
-/
import Derived.Test.YtaacgmcgmljjeaaGreatTP5
import Derived.WalkKit
import Derived.Below
import Derived.Test.YtaacgmcgmljjeaaGreatTP3
set_option linter.unusedSimpArgs false
set_option linter.unusedVariables false

/- Worded; tag.Bytes of no numbers. -/
namespace Go.Proofs.YtaacgmcgmljjeaaGreat
open Go.RowKit

def wdL (ns : List Int) (k : Nat) : List Int := (ns.take k).map fun x => 32 + x % 95
def wordS (ns : List Int) : ByteArray := if ns.length = 0 then ⟨#[65]⟩ else strD (wdL ns (min ns.length 200))
theorem wdL_0 (ns : List Int) : wdL ns 0 = [] := rfl
theorem wdL_s {ns : List Int} {k : Nat} (h : k < ns.length) : wdL ns (k + 1) = wdL ns k ++ [32 + ns.getD k 0 % 95] := by
  unfold wdL
  rw [List.take_succ_eq_append_getElem h, List.map_append]
  simp [List.getD, h]
theorem strD_app (a b : List Int) : strD (a ++ b) = strD a ++ strD b := by
  apply ByteArray.ext
  simp [strD]
theorem strD_size (a : List Int) : (strD a).size = a.length := by simp [strD, ByteArray.size]
theorem wdL_len {ns : List Int} {k : Nat} (h : k ≤ ns.length) : (wdL ns k).length = k := by simp [wdL]; omega
theorem cmpS_size {a : List Int} : cmpS .eql (strD a) ⟨#[]⟩ = decide (a.length = 0) := by
  show ((strD a).toList == (⟨#[]⟩ : ByteArray).toList) = _
  rw [ByteArray.toList_eq, ByteArray.toList_eq]
  cases a with
  | nil => rfl
  | cons x xs => simp [strD]
theorem word_t {ns : List Int} {k : Nat} (hk : k = min ns.length 200) (h : cmpS .eql (strD (wdL ns k)) ⟨#[]⟩ = true) : X.d (.str ⟨#[65]⟩) = X.d (.str (wordS ns)) := by
  subst hk
  rw [cmpS_size, wdL_len (by omega)] at h
  have : ns.length = 0 := by have := of_decide_eq_true h; omega
  unfold wordS
  rw [if_pos this]
theorem word_f {ns : List Int} {k : Nat} (hk : k = min ns.length 200) (h : cmpS .eql (strD (wdL ns k)) ⟨#[]⟩ = false) : X.d (.str (strD (wdL ns k))) = X.d (.str (wordS ns)) := by
  subst hk
  rw [cmpS_size, wdL_len (by omega)] at h
  have : ns.length ≠ 0 := by have := of_decide_eq_false h; omega
  unfold wordS
  rw [if_neg this]
theorem u8D_at {xs : List Int} {k : Nat} (h : k < xs.length) : ((u8D xs).drop (k * 1)).take 1 = [.int .u8 (xs.getD k 0)] := by
  have hk : k < (u8D xs).length := by simpa [u8D] using h
  rw [Nat.mul_one, List.drop_eq_getElem_cons hk]
  simp [u8D, h]
theorem u8_bd {ns : List Int} (h : ∀ v ∈ ns, 0 ≤ v ∧ v < 256) (i : Nat) : 0 ≤ ns.getD i 0 ∧ ns.getD i 0 < 256 := by
  by_cases hi : i < ns.length
  · simp only [List.getD_eq_getElem?_getD, List.getElem?_eq_getElem hi, Option.getD_some]
    exact h _ (List.getElem_mem hi)
  · simp [List.getD_eq_getElem?_getD, List.getElem?_eq_none (Nat.le_of_not_lt hi)]

set_option maxRecDepth 100000 in
set_option maxHeartbeats 2000000 in
theorem bytes0 (g : ByteArray) (hgg : PC Tryz.prog 45 [.d (.str g)] (.d (.bool true))) : PC Tryz.prog 17 [.agg [.d (.str g), .d (.int .i64 2), .d (.str (⟨#[]⟩)), .d (.sl 0 0 []), .d (.int .i64 0), .d (.sl 0 0 [])]] (.tup [.d (.str ⟨#[]⟩), .d (.int .i64 150)]) := by
  refine PC_of (fn := Tryz.f17) Tryz.func17 rfl (by simp [Tryz.ntmps17]) (by kernel_rfl) fun G hG => ?_
  rw [Tryz.ntmps17]
  refine aw_seq ?_
  refine aw_region_seq [⟨.ptr 1 0, [(1, some ⟨41, 6, [.d (.str g), .d (.int .i64 2), .d (.str (⟨#[]⟩)), .d (.sl 0 0 []), .d (.int .i64 0), .d (.sl 0 0 [])]⟩)], [1], []⟩, ⟨.d (.str (⟨#[]⟩)), [], [], []⟩, ⟨.d (.int .i64 0), [], [], []⟩] (by kernel_rfl) (by kernel_rfl) (fun id _ => hG id) ?_ ?_
  · exact okY rfl (LT_box (x := .agg [.d (.str g), .d (.int .i64 2), .d (.str (⟨#[]⟩)), .d (.sl 0 0 []), .d (.int .i64 0), .d (.sl 0 0 [])]) 1 rfl rfl rfl 6 rfl (List.Mem.head _)) <| okY rfl (LT_assign rfl rfl) <| okY rfl (LT_assign rfl rfl) <| okE
  change AW _ _ _ _ _ _
  refine aw_weak (weak_of [(1, .ptr 1 0)] [(1, some ⟨41, 6, [.d (.str g), .d (.int .i64 2), .d (.str (⟨#[]⟩)), .d (.sl 0 0 []), .d (.int .i64 0), .d (.sl 0 0 [])]⟩)] [1] (sE rfl sE0) (sH rfl sH0) (by kernel_rfl)) ?_
  refine aw_seq ?_
  refine aw_seq ?_
  refine aw_region_seq [⟨.agg [.d (.str g), .d (.int .i64 2), .d (.str (⟨#[]⟩)), .d (.sl 0 0 []), .d (.int .i64 0), .d (.sl 0 0 [])], [], [], [1]⟩, ⟨.d (.int .i64 150), [], [], []⟩, ⟨.d (.int .i64 150), [], [], []⟩] (by kernel_rfl) (by kernel_rfl) (fun id _ => hG id) ?_ ?_
  · exact okY rfl (LT_load 6 rfl rfl rfl (List.Mem.head _) Tryz.underlying41 inf41 (by simp) (.inl ⟨rfl, rfl, rfl⟩)) <| okY rfl (LT_call [.agg [.d (.str g), .d (.int .i64 2), .d (.str (⟨#[]⟩)), .d (.sl 0 0 []), .d (.int .i64 0), .d (.sl 0 0 [])]] rfl rfl Tryz.call18 rfl ((check_none g hgg).ct rfl)) <| okY rfl (LT_assign rfl rfl) <| okE
  change AW _ _ _ _ _ _
  refine aw_weak (weak_of [(1, .ptr 1 0), (4, .d (.int .i64 150))] [(1, some ⟨41, 6, [.d (.str g), .d (.int .i64 2), .d (.str (⟨#[]⟩)), .d (.sl 0 0 []), .d (.int .i64 0), .d (.sl 0 0 [])]⟩)] [1] (sE rfl (sE rfl sE0)) (sH rfl sH0) (by kernel_rfl)) ?_
  refine aw_seq ?_
  refine aw_region_seq [⟨.d (.int .i64 150), [], [], []⟩, ⟨.d (.bool true), [], [], []⟩] (by kernel_rfl) (by kernel_rfl) (fun id _ => hG id) ?_ ?_
  · exact okY rfl (LT_move rfl rfl) <| okY rfl (LT_cmp rfl rfl rfl rfl rfl) <| okE
  change AW _ _ _ _ _ _
  refine aw_weak (weak_of [(1, .ptr 1 0), (4, .d (.int .i64 150)), (9, .d (.bool true))] [(1, some ⟨41, 6, [.d (.str g), .d (.int .i64 2), .d (.str (⟨#[]⟩)), .d (.sl 0 0 []), .d (.int .i64 0), .d (.sl 0 0 [])]⟩)] [1] (sE rfl (sE rfl (sE rfl sE0))) (sH rfl sH0) (by kernel_rfl)) ?_
  refine aw_condT rfl ?_
  refine aw_seq ?_
  refine aw_region_seq [⟨.d (.int .i64 150), [], [], []⟩, ⟨.d (.str (⟨#[]⟩)), [], [], []⟩, ⟨.d (.int .i64 150), [], [], []⟩] (by kernel_rfl) (by kernel_rfl) (fun id _ => hG id) ?_ ?_
  · exact okY rfl (LT_move rfl rfl) <| okY rfl (LT_assign rfl rfl) <| okY rfl (LT_assign rfl rfl) <| okE
  change AW _ _ _ _ _ _
  refine aw_weak (weak_of [(2, .d (.str (⟨#[]⟩))), (3, .d (.int .i64 150))] [] [] (sE rfl (sE rfl sE0)) sH0 (by kernel_rfl)) ?_
  refine aw_ret ?_
  refine finN (xs := [.d (.str (⟨#[]⟩)), .d (.int .i64 150)]) (l := [.tmp 2, .tmp 3]) (.inl rfl) Tryz.results17 (rL rfl (rL rfl (rL0))) (by simp) ?_
  exact rfl

set_option maxRecDepth 100000 in
set_option maxHeartbeats 2000000 in
theorem worded_pc (ns : List Int) (hns : ∀ v ∈ ns, 0 ≤ v ∧ v < 256) (hl : ns.length ≤ 9223372036854775807) : PC Tryz.prog 20 [.d (.sl ns.length 1 (u8D ns)), .d (.int .i64 200)] (.d (.str (wordS ns))) := by
  refine PC_of (fn := Tryz.f20) Tryz.func20 rfl (by simp [Tryz.ntmps20]) (by kernel_rfl) fun G hG => ?_
  rw [Tryz.ntmps20]
  refine aw_seq ?_
  refine aw_region_seq [⟨.d (.str (⟨#[]⟩)), [], [], []⟩] (by kernel_rfl) (by kernel_rfl) (fun id _ => hG id) ?_ ?_
  · exact okY rfl (LT_assign rfl rfl) <| okE
  change AW _ _ _ _ _ _
  refine aw_weak (weak_of [(0, .d (.sl ns.length 1 (u8D ns))), (1, .d (.int .i64 200))] [] [] (sE rfl (sE rfl sE0)) sH0 (by kernel_rfl)) ?_
  refine aw_seq ?_
  refine aw_region_seq [⟨.d (.str (⟨#[]⟩)), [], [], []⟩] (by kernel_rfl) (by kernel_rfl) (fun id _ => hG id) ?_ ?_
  · exact okY rfl (LT_assign rfl rfl) <| okE
  change AW _ _ _ _ _ _
  refine aw_weak (weak_of [(0, .d (.sl ns.length 1 (u8D ns))), (1, .d (.int .i64 200)), (5, .d (.str (⟨#[]⟩)))] [] [] (sE rfl (sE rfl (sE rfl sE0))) sH0 (by kernel_rfl)) ?_
  refine aw_seq ?_
  refine aw_seq ?_
  refine aw_region_seq [⟨.d (.int .i64 0), [], [], []⟩] (by kernel_rfl) (by kernel_rfl) (fun id _ => hG id) ?_ ?_
  · exact okY rfl (LT_assign rfl rfl) <| okE
  change AW _ _ _ _ _ _
  refine aw_weak (weak_of [(0, .d (.sl ns.length 1 (u8D ns))), (1, .d (.int .i64 200)), (5, .d (.str (⟨#[]⟩))), (6, .d (.int .i64 0))] [] [] (sE rfl (sE rfl (sE rfl (sE rfl sE0)))) sH0 (by kernel_rfl)) ?_
  refine aw_block ?_
  refine aw_loopJ (fun k => ⟨[(0, .d (.sl ns.length 1 (u8D ns))), (1, .d (.int .i64 200)), (5, .d (.str (strD (wdL ns k)))), (6, .d (.int .i64 ((k : Nat) : Int)))], [], []⟩) (fun k => k ≤ ns.length ∧ k ≤ 200) (fun k => ns.length - k) 0 (⟨by omega, by omega⟩) ?_ ?_
  · exact weak_of _ _ _ (sE rfl (sE rfl (sE (by rw [wdL_0]; rfl) (sE rfl sE0)))) sH0 (by kernel_rfl)
  intro k hJ0
  obtain ⟨hk, hk2⟩ := hJ0
  have hx := u8_bd hns k
  refine aw_seq ?_
  refine aw_seq ?_
  refine aw_region_seq [⟨.d (.int .i64 ((k : Nat) : Int)), [], [], []⟩, ⟨.d (.sl ns.length 1 (u8D ns)), [], [], []⟩, ⟨.d (.int .i64 ((ns.length : Nat) : Int)), [], [], []⟩, ⟨.d (.bool (decide ((((k : Nat) : Int) : Int) < ((ns.length : Nat) : Int)))), [], [], []⟩, ⟨.d (.bool (decide ((((k : Nat) : Int) : Int) < ((ns.length : Nat) : Int)))), [], [], []⟩, ⟨.opt ((decide ((((k : Nat) : Int) : Int) < ((ns.length : Nat) : Int))) == true) (.d (.int .i64 ((k : Nat) : Int))), [], [], []⟩, ⟨.opt ((decide ((((k : Nat) : Int) : Int) < ((ns.length : Nat) : Int))) == true) (.d (.int .i64 200)), [], [], []⟩, ⟨.opt ((decide ((((k : Nat) : Int) : Int) < ((ns.length : Nat) : Int))) == true) (.d (.bool (decide ((((k : Nat) : Int) : Int) < 200)))), [], [], []⟩, ⟨.d (.bool ((decide ((((k : Nat) : Int) : Int) < ((ns.length : Nat) : Int))) && (decide ((((k : Nat) : Int) : Int) < 200)))), [], [], []⟩] (by kernel_rfl) (by kernel_rfl) (fun id _ => hG id) ?_ ?_
  · exact okY rfl (LT_move rfl rfl) <| okY rfl (LT_move rfl rfl) <| okY rfl (LT_lenD rfl Tryz.underlying23 rfl) <| okY rfl (LT_cmp rfl rfl rfl rfl rfl) <| okY rfl (LT_move rfl rfl) <| okG ((decide ((((k : Nat) : Int) : Int) < ((ns.length : Nat) : Int))) == true) rfl (fun hg => (LT_move rfl rfl)) <| okG ((decide ((((k : Nat) : Int) : Int) < ((ns.length : Nat) : Int))) == true) rfl (fun hg => (LT_move rfl rfl)) <| okG ((decide ((((k : Nat) : Int) : Int) < ((ns.length : Nat) : Int))) == true) rfl (fun hg => (LT_cmp rfl rfl (opnT rfl hg) (opnT rfl hg) rfl)) <| okY rfl (LT_pand rfl rfl rfl (fun h => by rw [h]; rfl)) <| okE
  change AW _ _ _ _ _ _
  refine aw_weak (weak_of [(0, .d (.sl ns.length 1 (u8D ns))), (1, .d (.int .i64 200)), (5, .d (.str (strD (wdL ns k)))), (6, .d (.int .i64 ((k : Nat) : Int))), (15, .d (.bool ((decide ((((k : Nat) : Int) : Int) < ((ns.length : Nat) : Int))) && (decide ((((k : Nat) : Int) : Int) < 200)))))] [] [] (sE rfl (sE rfl (sE rfl (sE rfl (sE rfl sE0))))) sH0 (by kernel_rfl)) ?_
  refine aw_cond ((decide ((((k : Nat) : Int) : Int) < ((ns.length : Nat) : Int))) && (decide ((((k : Nat) : Int) : Int) < 200))) rfl (fun hb1 => ?_) (fun hb1 => ?_)
  ·
    simp at hb1
    refine aw_skip ?_
    change AW _ _ _ _ _ _
    refine aw_weak (weak_of [(0, .d (.sl ns.length 1 (u8D ns))), (1, .d (.int .i64 200)), (5, .d (.str (strD (wdL ns k)))), (6, .d (.int .i64 ((k : Nat) : Int)))] [] [] (sE rfl (sE rfl (sE rfl (sE rfl sE0)))) sH0 (by kernel_rfl)) ?_
    refine aw_seq ?_
    refine aw_block ?_
    refine aw_region_seq [⟨.d (.str (strD (wdL ns k))), [], [], []⟩, ⟨.d (.sl ns.length 1 (u8D ns)), [], [], []⟩, ⟨.d (.int .i64 ((k : Nat) : Int)), [], [], []⟩, ⟨.dptr [.int .u8 (ns.getD k 0)], [], [], []⟩, ⟨.d (.int .u8 (ns.getD k 0)), [], [], []⟩, ⟨.d (.int .u8 ((ns.getD k 0) % 95)), [], [], []⟩, ⟨.d (.int .u8 (32 + ((ns.getD k 0) % 95))), [], [], []⟩, ⟨.d (.sl 1 1 ([(32 + ((ns.getD k 0) % 95))].map (.int .u8))), [], [], []⟩, ⟨.d (.str (strD [(32 + ((ns.getD k 0) % 95))])), [], [], []⟩, ⟨.d (.str ((strD (wdL ns k)) ++ (strD [(32 + ((ns.getD k 0) % 95))]))), [], [], []⟩, ⟨.d (.str ((strD (wdL ns k)) ++ (strD [(32 + ((ns.getD k 0) % 95))]))), [], [], []⟩] (by kernel_rfl) (by kernel_rfl) (fun id _ => hG id) ?_ ?_
    · exact okY rfl (LT_move rfl rfl) <| okY rfl (LT_move rfl rfl) <| okY rfl (LT_move rfl rfl) <| okY rfl (LT_indexD rfl rfl rfl Tryz.underlying23 inf5 rfl (by omega) (by omega) (u8D_at (by omega))) <| okY rfl (LT_loadD 1 rfl rfl Tryz.underlying5 inf5 (by simp) (.inr ⟨rfl, rfl, rfl⟩)) <| okY rfl (LT_rem rfl rfl rfl (by omega) (Int.tmod_eq_emod_of_nonneg (by omega))) <| okY rfl (LT_add rfl rfl rfl (by rw [IntKind.wrap_u8]; omega)) <| okY rfl (LT_buildSliceD [.d (.int .u8 (32 + ((ns.getD k 0) % 95)))] ([(32 + ((ns.getD k 0) % 95))].map (.int .u8)) rfl Tryz.underlying23 inf5 rfl rfl 1 rfl (by decide) (by decide) rfl rfl (by decide) rfl (by kernel_rfl) rfl) <| okY rfl (LT_strOf [(32 + ((ns.getD k 0) % 95))] _ rfl Tryz.underlying23 Tryz.underlying9 Tryz.underlying5 rfl rfl) <| okY rfl (LT_strcat rfl rfl rfl (by rw [strD_size, strD_size, wdL_len (by omega)]; simp; omega) rfl) <| okY rfl (LT_assign rfl rfl) <| okE
    change AW _ _ _ _ _ _
    refine aw_weak (weak_of [(0, .d (.sl ns.length 1 (u8D ns))), (1, .d (.int .i64 200)), (6, .d (.int .i64 ((k : Nat) : Int))), (5, .d (.str ((strD (wdL ns k)) ++ (strD [(32 + ((ns.getD k 0) % 95))]))))] [] [] (sE rfl (sE rfl (sE rfl (sE rfl sE0)))) sH0 (by kernel_rfl)) ?_
    refine aw_region_seq [⟨.d (.int .i64 ((k : Nat) : Int)), [], [], []⟩, ⟨.d (.int .i64 (((k : Nat) : Int) + 1)), [], [], []⟩, ⟨.d (.int .i64 (((k : Nat) : Int) + 1)), [], [], []⟩] (by kernel_rfl) (by kernel_rfl) (fun id _ => hG id) ?_ ?_
    · exact okY rfl (LT_move rfl rfl) <| okY rfl (LT_add rfl rfl rfl (wi64 (by omega) (by omega))) <| okY rfl (LT_assign rfl rfl) <| okE
    exact ⟨(k + 1), ⟨by omega, by omega⟩, by omega, weak_of _ _ _ (sE rfl (sE rfl (sE (by rw [wdL_s (by omega), strD_app]; rfl) (sE rfl sE0)))) sH0 (by kernel_rfl)⟩
  ·
    simp at hb1
    have hkm : k = min ns.length 200 := by omega
    refine aw_exit ?_
    change AW _ _ _ _ _ _
    refine aw_weak (weak_of [(5, .d (.str (strD (wdL ns k))))] [] [] (sE rfl sE0) sH0 (by kernel_rfl)) ?_
    refine aw_seq ?_
    refine aw_seq ?_
    refine aw_region_seq [⟨.d (.str (strD (wdL ns k))), [], [], []⟩, ⟨.d (.bool (cmpS .eql (strD (wdL ns k)) (⟨#[]⟩))), [], [], []⟩] (by kernel_rfl) (by kernel_rfl) (fun id _ => hG id) ?_ ?_
    · exact okY rfl (LT_move rfl rfl) <| okY rfl (LT_strcmp rfl rfl rfl rfl rfl) <| okE
    change AW _ _ _ _ _ _
    refine aw_weak (weak_of [(5, .d (.str (strD (wdL ns k)))), (29, .d (.bool (cmpS .eql (strD (wdL ns k)) (⟨#[]⟩))))] [] [] (sE rfl (sE rfl sE0)) sH0 (by kernel_rfl)) ?_
    refine aw_cond (cmpS .eql (strD (wdL ns k)) (⟨#[]⟩)) rfl (fun hb2 => ?_) (fun hb2 => ?_)
    ·
      refine aw_seq ?_
      refine aw_region_seq [⟨.d (.str (⟨#[65]⟩)), [], [], []⟩] (by kernel_rfl) (by kernel_rfl) (fun id _ => hG id) ?_ ?_
      · exact okY rfl (LT_assign rfl rfl) <| okE
      change AW _ _ _ _ _ _
      refine aw_weak (weak_of [(4, .d (.str (⟨#[65]⟩)))] [] [] (sE rfl sE0) sH0 (by kernel_rfl)) ?_
      refine aw_ret ?_
      refine fin1 (x := .d (.str (⟨#[65]⟩))) (.inl rfl) Tryz.results20 rfl ?_
      exact word_t hkm hb2
    ·
      refine aw_skip ?_
      change AW _ _ _ _ _ _
      refine aw_weak (weak_of [(5, .d (.str (strD (wdL ns k))))] [] [] (sE rfl sE0) sH0 (by kernel_rfl)) ?_
      refine aw_seq ?_
      refine aw_region_seq [⟨.d (.str (strD (wdL ns k))), [], [], []⟩, ⟨.d (.str (strD (wdL ns k))), [], [], []⟩] (by kernel_rfl) (by kernel_rfl) (fun id _ => hG id) ?_ ?_
      · exact okY rfl (LT_move rfl rfl) <| okY rfl (LT_assign rfl rfl) <| okE
      change AW _ _ _ _ _ _
      refine aw_weak (weak_of [(4, .d (.str (strD (wdL ns k))))] [] [] (sE rfl sE0) sH0 (by kernel_rfl)) ?_
      refine aw_ret ?_
      refine fin1 (x := .d (.str (strD (wdL ns k)))) (.inl rfl) Tryz.results20 rfl ?_
      exact word_f hkm hb2

end Go.Proofs.YtaacgmcgmljjeaaGreat

/- An evaluator for closed runs: values by names of blocks, operations, and a machine of frames. That what it answers is so is shown in the texts that follow. -/
namespace Go.Proofs.YtaacgmcgmljjeaaGreat
namespace Ev

/-! ### tries -/
inductive Tr (α : Type) where
  | nil
  | node (l : Tr α) (v : Option α) (r : Tr α)

def Tr.get {α : Type} : Tr α → Nat → Option α
  | .nil => fun _ => none
  | .node l v r => fun n => match n with
    | 0 => v
    | m + 1 => match Nat.beq (Nat.mod m 2) 0 with | true => l.get (Nat.div m 2) | false => r.get (Nat.div m 2)

/-- only one place is taken -/
def Tr.one {α : Type} (x : α) : Nat → Nat → Tr α
  | 0 => fun _ => .nil
  | f + 1 => fun n => match n with
    | 0 => .node .nil (some x) .nil
    | m + 1 => match Nat.beq (Nat.mod m 2) 0 with | true => .node (Tr.one x f (Nat.div m 2)) none .nil | false => .node .nil none (Tr.one x f (Nat.div m 2))

def Tr.set {α : Type} (x : α) : Tr α → Nat → Tr α
  | .nil => fun n => Tr.one x (Nat.succ n) n
  | .node l v r => fun n => match n with
    | 0 => .node l (some x) r
    | m + 1 => match Nat.beq (Nat.mod m 2) 0 with | true => .node (l.set x (Nat.div m 2)) v r | false => .node l v (r.set x (Nat.div m 2))

/-! ### values, objects -/
inductive V where
  | any
  | bool (b : Bool)
  /-- an int that is not negative -/
  | nn (n : Nat)
  | int (k : IntKind) (n : Int)
  | str (s : List UInt8)
  | nilp | nils | nilm | nilf | nili
  | ptr (id off : Nat)
  /-- a slice of n elements, of a capacity that is known -/
  | sl (id off n cap : Nat)
  /-- a slice of n elements from the beginning of its block, and as long as that can be -/
  | own (id n : Nat)
  | map (id : Nat)
  | func (f : FuncId) (first caps : List V)
  /-- the function that a range over a function hands on -/
  | yield (l : Nat)
  /-- a slice of n elements -/
  | len (n : Nat)
  | iface (t : TypeId) (v : V)
  | agg (cs : List V)
  | tup (vs : List V)
  deriving Inhabited

/-- what slots hold, the last first -/
abbrev Env := List (Nat × V)

def get : Env → Nat → V
  | [] => fun _ => .any
  | p :: r => fun t => match Nat.beq p.1 t with | true => p.2 | false => get r t

inductive O where
  /-- a row of elements of type T, of e cells each; n cells are known -/
  | cells (T : TypeId) (e n : Nat) (c : Tr V)
  /-- cells that are only read -/
  | ro (c : Tr V)
  | map (es : List (V × V × Nat)) (clock : Nat)
  | loop (state : LoopState) (pending : Option Code) (fn : FuncId) (E : Env) (params : List Nat) (assign body : Code) (defers : Nat)
  | deferred

/-- blocks by names; one that is known no more is none -/
abbrev Hp := Tr (Option O)
/-- the blocks, and the next name -/
structure Mem where
  H : Hp
  n : Nat
def joinO : Option (Option O) → Option O
  | some o => o
  | none => none
def look (m : Mem) (i : Nat) : Option O := joinO (m.H.get i)
def Mem.put (m : Mem) (id : Nat) (o : O) : Mem := ⟨m.H.set (some o) id, m.n⟩
def Mem.drop (m : Mem) (id : Nat) : Mem := ⟨m.H.set none id, m.n⟩
def Mem.add (m : Mem) (o : O) : Mem := ⟨m.H.set (some o) m.n, Nat.succ m.n⟩

/-! ### the program's tables -/
def trOf {α : Type} : List α → Nat → Tr α → Tr α
  | [] => fun _ t => t
  | x :: xs => fun i t => trOf xs (Nat.succ i) (t.set x i)
structure Tab where
  funcs : Tr Func
  types : Tr TypeInfo
  /-- what is known of calls that turn no block -/
  sum : FuncId → List V → Option V
  /-- structs that are compared field by field -/
  eqs : List TypeId
def Tab.of (P : Program) (sum : FuncId → List V → Option V) (eqs : List TypeId := []) : Tab := ⟨trOf P.funcs.toList 0 .nil, trOf P.types.toList 0 .nil, sum, eqs⟩
def infoT (T : Tab) (t : TypeId) : Option TypeInfo := T.types.get t
def undOf (T : Tab) (i : TypeInfo) : Option TypeDesc := match i.desc with
  | .named _ u => (infoT T u).map (·.desc)
  | d => some d
def undT (T : Tab) (t : TypeId) : Option TypeDesc := (infoT T t).bind (undOf T)
def sizeT (T : Tab) (t : TypeId) : Option Nat := (infoT T t).map (·.size)

/-! ### numbers -/
def kN : IntKind → Nat
  | .i8 => 0 | .i16 => 1 | .i32 => 2 | .i64 => 3 | .u8 => 4 | .u16 => 5 | .u32 => 6 | .u64 => 7
def kEq (a b : IntKind) : Bool := Nat.beq (kN a) (kN b)
def maxN : IntKind → Nat
  | .i8 => 127 | .i16 => 32767 | .i32 => 2147483647 | .i64 => 9223372036854775807 | .u8 => 255 | .u16 => 65535 | .u32 => 4294967295 | .u64 => 18446744073709551615
def is64 : IntKind → Bool
  | .i64 => true
  | _ => false
/-- a number in its kind's range as a value -/
def ofP (k : IntKind) (m : Nat) : V := match is64 k with | true => .nn m | false => .int k (.ofNat m)
def ofR (k : IntKind) (n : Int) : V := match n with
  | .ofNat m => ofP k m
  | .negSucc _ => .int k n
def ofN (k : IntKind) (m : Nat) : V := match Nat.ble m (maxN k) with | true => ofP k m | false => ofR k (k.wrap (.ofNat m))
/-- a number of a kind as a value, brought into its range -/
def ofI (k : IntKind) (n : Int) : V := match n with
  | .ofNat m => ofN k m
  | .negSucc _ => ofR k (k.wrap n)
def toI : V → Option (IntKind × Int)
  | .nn n => some (.i64, .ofNat n)
  | .int k n => some (k, n)
  | _ => none
def natI : Int → Option Nat
  | .ofNat m => some m
  | .negSucc _ => none
def toN : V → Option Nat
  | .nn n => some n
  | .int _ n => natI n
  | _ => none

/-! ### constants -/
def constL : Value → V
  | .bool b => .bool b
  | .int k n => ofR k n
  | .string s => .str s.data.toList
  | .slice none 0 0 => .nils
  | .nilFunc => .nilf
  | .nilIface => .nili
  | .map none => .nilm
  | .pointer none => .nilp
  | _ => .any
/-- a thing of one cell -/
def V.one : V → Bool
  | .any => false
  | .agg _ => false
  | .tup _ => false
  | _ => true
/-- a thing whose cells are known to be of one cell each -/
def V.okc : V → Bool
  | .agg _ => true
  | x => x.one
def aggV (l : List V) : V := match l.all V.one with | true => .agg l | false => .any
def constV : Value → V
  | .agg cs => aggV (cs.toList.map constL)
  | .tuple cs => (match cs.toList with | [] => .tup [] | _ => .any)
  | v => constL v

def opX (E : Env) : Operand → V
  | .tmp t => get E t
  | .const v => constV v
  | .func f => .func f [] []
  | .global _ => .any

def V.cells : V → List V
  | .agg cs => cs
  | v => [v]

def isAgg : TypeDesc → Bool
  | .struct _ => true
  | .array _ _ => true
  | _ => false
/-- how values of a type lie in cells: some n, if they are parts of their own -/
inductive Lay1 where
  | one
  | agg (n : Nat)
  | no
def layT (T : Tab) (t : TypeId) : Lay1 :=
  match undT T t, sizeT T t with
  | some d, some z => (match isAgg d with | true => .agg z | false => .one)
  | _, _ => .no

/-- what an operation needs of the machine -/
inductive XR where
  | call (f : FuncId) (args : List V)
  | round (l : Nat) (args : List V)
  | pan (v : V)
  | defer (f : FuncId) (args : List V)
  | recover
  | no (why : Nat)

/-- what an operation answers: a value, and the blocks -/
inductive OR where
  | ok (x : V) (m : Mem)
  | ext (r : XR)

def no (w : Nat) : OR := .ext (.no w)
def okO (m : Mem) : Option V → OR
  | some x => .ok x m
  | none => no 1
def okM (x : V) : Option Mem → OR
  | some m => .ok x m
  | none => no 2

/-- cells from a place on -/
def takeD (c : Tr V) : Nat → Nat → Option (List V)
  | 0 => fun _ => some []
  | n + 1 => fun off => match c.get off with
    | some x => (takeD c n (Nat.succ off)).map (x :: ·)
    | none => none
def putD : List V → Tr V → Nat → Tr V
  | [] => fun c _ => c
  | x :: xs => fun c off => putD xs (c.set x off) (Nat.succ off)

def loadL (c : Tr V) (off : Nat) : Lay1 → Option V
  | .one => c.get off
  | .agg n => (takeD c n off).map .agg
  | .no => none
def loadO (T : Tab) (t : TypeId) (off : Nat) : Option O → Option V
  | some (.cells _ _ _ c) => loadL c off (layT T t)
  | some (.ro c) => loadL c off (layT T t)
  | _ => none
def loadE (T : Tab) (t : TypeId) (m : Mem) : V → Option V
  | .ptr id off => loadO T t off (look m id)
  | _ => none

def rowE (t : TypeId) (e : Nat) (cs : List V) : O := .cells t e cs.length (putD cs .nil 0)

/-- cells written at a place of a block -/
def putO (id off : Nat) (l : List V) (m : Mem) : Option O → Option Mem
  | some (.cells U e z c) => (match Nat.ble (Nat.add off l.length) z with
    | true => some (m.put id (.cells U e z (putD l c off)))
    | false => none)
  | _ => none
def putAt (id off : Nat) (l : List V) (m : Mem) : Option Mem := putO id off l m (look m id)

def sized (T : Tab) (t : TypeId) (x : V) : Bool := match sizeT T t with | some z => Nat.beq x.cells.length z && x.okc | none => false
def storeP (T : Tab) (t : TypeId) (x : V) (m : Mem) : V → OR
  | .ptr id off => (match sized T t x with | true => okM (.tup []) (putAt id off x.cells m) | false => no 3)
  | _ => no 4

def cmpN (op : BinOp) (x y : Nat) : Option V :=
  match op with
  | .eql => some (.bool (Nat.beq x y)) | .neq => some (.bool (!Nat.beq x y)) | .lss => some (.bool (Nat.ble (Nat.succ x) y)) | .leq => some (.bool (Nat.ble x y)) | .gtr => some (.bool (Nat.ble (Nat.succ y) x)) | .geq => some (.bool (Nat.ble y x))
  | _ => none
def cmpI (op : BinOp) (x y : Int) : Option V :=
  match op with
  | .eql => some (.bool (decide (x = y))) | .neq => some (.bool (!decide (x = y))) | .lss => some (.bool (decide (x < y))) | .leq => some (.bool (decide (x ≤ y))) | .gtr => some (.bool (decide (y < x))) | .geq => some (.bool (decide (y ≤ x)))
  | _ => none

def bytesEq : List UInt8 → List UInt8 → Bool
  | [] => fun bs => bs.isEmpty
  | a :: «as» => fun bs => match bs with
    | [] => false
    | b :: bs => (match Nat.beq a.toNat b.toNat with | true => bytesEq «as» bs | false => false)

def pieceL (l : List V) (off : Nat) : Lay1 → Option V
  | .one => l[off]?
  | .agg z => some (.agg ((l.drop off).take z))
  | .no => none
def pieceE (T : Tab) (l : List V) (f : Field) : Option V := pieceL l f.offset (layT T f.type)
def eqFields (T : Tab) (q : TypeId → V → V → Option Bool) (xs ys : List V) : List Field → Option Bool
  | [] => some true
  | f :: fs => match decide (f.name = "_") with
    | true => none
    | false => match pieceE T xs f, pieceE T ys f with
      | some x, some y => (match q f.type x y with
        | some true => eqFields T q xs ys fs
        | r => r)
      | _, _ => none
def eqInt (x y : V) : Option Bool :=
  match toI x, toI y with
  | some p, some q => (match kEq p.1 q.1 with | true => some (decide (p.2 = q.2)) | false => none)
  | _, _ => none
def hasT (t : TypeId) : List TypeId → Bool
  | [] => false
  | a :: r => match Nat.beq t a with | true => true | false => hasT t r
def eqStr (T : Tab) (q : TypeId → V → V → Option Bool) (fs : List Field) (x y : V) : Bool → Option Bool
  | true => (match x, y with | .agg a, .agg b => eqFields T q a b fs | _, _ => none)
  | false => none
/-- equality of values of a type -/
def eqStep (T : Tab) (q : TypeId → V → V → Option Bool) (t : TypeId) (x y : V) : Option Bool :=
    match undT T t with
    | some .bool => (match x, y with | .bool a, .bool b => some (a == b) | _, _ => none)
    | some (.int _) => eqInt x y
    | some .string => (match x, y with | .str a, .str b => some (bytesEq a b) | _, _ => none)
    | some (.pointer e) => (match x, y with
      | .nilp, .nilp => some true
      | .nilp, .ptr _ _ => some false
      | .ptr _ _, .nilp => some false
      | .ptr i a, .ptr j b => (match sizeT T e, Nat.beq i j with | some (_ + 1), true => some (Nat.beq a b) | _, _ => none)
      | _, _ => none)
    | some (.interface ms) => (match x, y with
      | .nili, .nili => (match ms.isEmpty with | true => some true | false => none)
      | .nili, .iface _ _ => some false
      | .iface _ _, .nili => some false
      | _, _ => none)
    | some (.slice _) => (match x, y with
      | .nils, .nils => some true
      | .sl _ _ _ _, .nils => some false
      | .own _ _, .nils => some false
      | _, _ => none)
    | some (.func _ _ _) => (match x, y with
      | .nilf, .nilf => some true
      | .func _ _ _, .nilf => some false
      | _, _ => none)
    | some (.struct fs) => eqStr T q fs.toList x y (hasT t T.eqs)
    | _ => none
def eqE (T : Tab) : Nat → TypeId → V → V → Option Bool
  | 0 => fun _ _ _ => none
  | d + 1 => eqStep T (eqE T d)

def divI (k : IntKind) (a b : Int) : Option V := match decide (b = 0) with | true => none | false => some (ofI k (a.tdiv b))
def remI (k : IntKind) (a b : Int) : Option V := match decide (b = 0) with | true => none | false => some (ofR k (a.tmod b))
def bitI (k : IntKind) (f : Nat → Nat → Nat) (a b : Int) : Option V :=
  match natI a, natI b with
  | some x, some y => some (ofN k (f x y))
  | _, _ => none
def arithI (op : BinOp) (k : IntKind) (a b : Int) : Option V :=
  match op with
  | .add => some (ofI k (Int.add a b))
  | .sub => some (ofI k (Int.sub a b))
  | .mul => some (ofI k (Int.mul a b))
  | .quo => divI k a b
  | .rem => remI k a b
  | .and => bitI k Nat.land a b
  | .or => bitI k Nat.lor a b
  | .xor => bitI k Nat.xor a b
  | op => cmpI op a b

def bitsN : IntKind → Nat
  | .i8 => 8 | .i16 => 16 | .i32 => 32 | .i64 => 64 | .u8 => 8 | .u16 => 16 | .u32 => 32 | .u64 => 64
def shlE (k : IntKind) (a : Int) (s : Nat) : V := ofI k (Int.mul a (.ofNat (Nat.pow 2 (Nat.min s (bitsN k)))))
def shrE (k : IntKind) (a : Int) (s : Nat) : V := ofR k (a.fdiv (.ofNat (Nat.pow 2 (Nat.min s (bitsN k)))))

def addN (a b : Nat) : Option V := match Nat.ble (Nat.add a b) 9223372036854775807 with | true => some (.nn (Nat.add a b)) | false => none
def subN (a b : Nat) : Option V := match Nat.ble b a && Nat.ble (Nat.sub a b) 9223372036854775807 with | true => some (.nn (Nat.sub a b)) | false => none
def mulN (a b : Nat) : Option V := match Nat.ble (Nat.mul a b) 9223372036854775807 with | true => some (.nn (Nat.mul a b)) | false => none
def quoN (a b : Nat) : Option V := match Nat.beq b 0 || !Nat.ble (Nat.div a b) 9223372036854775807 with | true => none | false => some (.nn (Nat.div a b))
def remN (a b : Nat) : Option V := match Nat.beq b 0 with | true => none | false => some (.nn (Nat.mod a b))
/-- two ints that are not negative -/
def nnE (op : BinOp) (a b : Nat) : Option V :=
  match op with
  | .add => addN a b
  | .sub => subN a b
  | .mul => mulN a b
  | .quo => quoN a b
  | .rem => remN a b
  | op => cmpN op a b
def shiftE (f : IntKind → Int → Nat → V) (k : IntKind) (a b : Int) : Option V := (natI b).map (f k a)
def sameK (op : BinOp) (k j : IntKind) (a b : Int) : Option V := match kEq k j with | true => arithI op k a b | false => none
def intI (op : BinOp) (k j : IntKind) (a b : Int) : Option V :=
  match op with
  | .shl => shiftE shlE k a b
  | .shr => shiftE shrE k a b
  | op => sameK op k j a b
def intE (op : BinOp) (x y : V) : Option V :=
  match toI x, toI y with
  | some p, some q => intI op p.1 q.1 p.2 q.2
  | _, _ => none

def strE (op : BinOp) (a b : List UInt8) : Option V :=
  match op with
  | .add => (match Nat.ble (Nat.add a.length b.length) 1000000 with | true => some (.str (a ++ b)) | false => none)
  | .eql => some (.bool (bytesEq a b))
  | .neq => some (.bool (!bytesEq a b))
  | _ => none

def eqlE (T : Tab) (t : TypeId) (x y : V) : Option V := (eqE T 3 t x y).map .bool
def neqE (T : Tab) (t : TypeId) (x y : V) : Option V := (eqE T 3 t x y).map fun b => .bool (!b)
def orS (a b : Option V) : Option V := match a with | some x => some x | none => b
def binN (op : BinOp) (a : Nat) (x : V) : V → Option V
  | .nn b => orS (nnE op a b) (intE op x (.nn b))
  | y => intE op x y
def binS (op : BinOp) (a : List UInt8) : V → Option V
  | .str b => strE op a b
  | _ => none
def binX (T : Tab) (op : BinOp) (t : TypeId) (x y : V) : Option V :=
  match op with
  | .eql => eqlE T t x y
  | .neq => neqE T t x y
  | _ => none
def binE (T : Tab) (op : BinOp) (t : TypeId) (y : V) (x : V) : Option V :=
  match x with
  | .nn a => binN op a (.nn a) y
  | .int k n => intE op (.int k n) y
  | .str a => binS op a y
  | x => binX T op t x y

def byteV (b : UInt8) : V := .int .u8 (.ofNat b.toNat)
def vByte : V → Option UInt8
  | .int k n => (match k with | .u8 => (natI n).map UInt8.ofNat | _ => none)
  | _ => none
def vBytes : List V → Option (List UInt8)
  | [] => some []
  | x :: xs => match vByte x with | some b => (vBytes xs).map (b :: ·) | none => none

def contO (off n : Nat) : Option O → Option (List V)
  | some (.cells _ _ _ c) => takeD c n off
  | some (.ro c) => takeD c n off
  | _ => none
/-- what a slice or a string holds: elements of e cells -/
def contents (e : Nat) (m : Mem) : V → Option (List V)
  | .nils => some []
  | .str s => (match Nat.beq e 1 with | true => some (s.map byteV) | false => none)
  | .sl id off n _ => contO off (Nat.mul n e) (look m id)
  | .own id n => contO 0 (Nat.mul n e) (look m id)
  | _ => none

def convInt (k : IntKind) (m : Mem) : V → OR
  | .nn a => .ok (ofN k a) m
  | .int _ n => .ok (ofI k n) m
  | _ => no 10
def V.isStr : V → Bool
  | .str _ => true
  | _ => false
def isByte (T : Tab) (e : TypeId) : Bool := match undT T e with | some (.int .u8) => true | _ => false
def convStr (T : Tab) (m : Mem) (src : Option TypeDesc) (x : V) : OR :=
  match src with
  | some .string => (match x with | .str s => .ok (.str s) m | _ => no 12)
  | some (.slice e) => (match isByte T e && !x.isStr with | true => okO m (((contents 1 m x).bind vBytes).map .str) | false => no 13)
  | _ => no 16
def convBytes (T : Tab) (e : TypeId) (m : Mem) : V → OR
  | .str s => (match isByte T e with | true => .ok (.own m.n s.length) (m.add (.ro (putD (s.map byteV) .nil 0))) | false => no 13)
  | _ => no 14
def convE (T : Tab) (src dst : TypeId) (m : Mem) (x : V) : OR :=
  match undT T dst with
  | some (.int k) => (match undT T src with | some _ => convInt k m x | none => no 18)
  | some .string => convStr T m (undT T src) x
  | some (.slice e) => (match undT T src with | some .string => convBytes T e m x | _ => no 19)
  | _ => no 17

def fieldOf (T : Tab) (t : TypeId) (f : Nat) : Option Field :=
  match undT T t with
  | some (.struct fs) => fs.toList[f]?
  | _ => none

def fillD (place : Nat → Option (Nat × Nat)) (E : Env) : List (Nat × Operand) → List V → Option (List V)
  | [] => fun cs => some cs
  | p :: r => fun cs => match place p.1 with
    | some q => (match Nat.beq (opX E p.2).cells.length q.2 && Nat.ble (Nat.add q.1 q.2) cs.length && (opX E p.2).okc with
      | true => fillD place E r (cs.take q.1 ++ ((opX E p.2).cells ++ cs.drop (Nat.add q.1 q.2)))
      | false => none)
    | none => none
def zeroE (T : Tab) (t : TypeId) : Option V := (infoT T t).bind fun i => i.zero.map constV
/-- a zero whose cells are known -/
def zeroC (T : Tab) (t : TypeId) : Option V := (zeroE T t).bind fun z => match z.okc with | true => some z | false => none
def rep (l : List V) : Nat → List V
  | 0 => []
  | n + 1 => l ++ rep l n
def placeF (T : Tab) (fs : List Field) (i : Nat) : Option (Nat × Nat) := fs[i]?.bind fun f => (sizeT T f.type).map fun s => (f.offset, s)
def placeA (s i : Nat) : Option (Nat × Nat) := some (Nat.mul i s, s)
/-- how parts lie in a struct or an array -/
inductive BW where
  | mk (place : Nat → Option (Nat × Nat)) (zero : List V)
  | no
def buildW (T : Tab) (t : TypeId) : BW :=
  match zeroC T t, undT T t with
  | some z, some (.struct fs) => (match fs.toList.all fun f => (sizeT T f.type).isSome with | true => .mk (placeF T fs.toList) z.cells | false => .no)
  | some z, some (.array _ e) => (match sizeT T e with | some s => .mk (placeA s) z.cells | none => .no)
  | _, _ => .no
def buildE (ps : List (Nat × Operand)) (E : Env) : BW → Option V
  | .mk place z => (fillD place E ps z).map .agg
  | .no => none
def sliceRow (e len : Nat) (m : Mem) (s : Nat) : Option (List V) → OR
  | some cs => .ok (.sl m.n 0 len len) (m.add (rowE e s cs))
  | none => no 20
/-- the elements' type, their size and their zero -/
inductive SW where
  | mk (e s bytes : Nat) (zero : List V)
  | no
def sliceW (T : Tab) (t : TypeId) : SW :=
  match undT T t with
  | some (.slice e) => (match infoT T e, zeroC T e with | some i, some z => (match Nat.beq z.cells.length i.size with | true => .mk e i.size i.bytes z.cells | false => .no) | _, _ => .no)
  | _ => .no
def buildSliceE (len : Nat) (ps : List (Nat × Operand)) (E : Env) (m : Mem) : SW → OR
  | .mk e s _ z => (match Nat.ble (Nat.mul len s) 16777216 with
    | true => sliceRow e len m s (fillD (placeA s) E ps (rep z len))
    | false => no 21)
  | .no => no 22

def optN (E : Env) (d : Nat) : Option Operand → Option Nat
  | none => some d
  | some y => toN (opX E y)
def bndOk (hi mx : Option Operand) (cap l h c : Nat) : Option (Nat × Nat × Nat) :=
  match Nat.ble l h && Nat.ble h c && Nat.ble c cap && (hi.isSome || mx.isNone) with | true => some (l, h, c) | false => none
/-- low, high and max of a slice expression -/
def boundsE (E : Env) (lo hi mx : Option Operand) (len cap : Nat) : Option (Nat × Nat × Nat) :=
  match optN E 0 lo, optN E len hi, optN E cap mx with
  | some l, some h, some c => bndOk hi mx cap l h c
  | _, _, _ => none
def cutS (s : List UInt8) (p : Nat × Nat × Nat) : V := .str ((s.drop p.1).take (Nat.sub p.2.1 p.1))
def offS (off z : Nat) (p : Nat × Nat × Nat) : Nat := match Nat.beq p.2.2 p.1 with | true => off | false => Nat.add off (Nat.mul p.1 z)
def cutL (id off z : Nat) (p : Nat × Nat × Nat) : V := .sl id (offS off z p) (Nat.sub p.2.1 p.1) (Nat.sub p.2.2 p.1)
def cutO (id : Nat) (p : Nat × Nat × Nat) : Option V := match Nat.beq p.1 0 with | true => some (.own id p.2.1) | false => none
def elemT (T : Tab) (t : TypeId) : Option TypeId := match undT T t with | some (.slice e) => some e | _ => none
def arrT (T : Tab) (t : TypeId) : Option (Nat × TypeId) := match undT T t with
  | some (.array n e) => some (n, e)
  | some (.pointer a) => (match undT T a with | some (.array n e) => some (n, e) | _ => none)
  | _ => none
def sliceOwn (id n z : Nat) (lo hi mx : Option Operand) (E : Env) : Option V :=
  match mx with
  | some _ => (boundsE E lo hi mx n n).map (cutL id 0 z)
  | none => (boundsE E lo hi none n n).bind (cutO id)
def sliceE (T : Tab) (t : TypeId) (lo hi mx : Option Operand) (E : Env) : V → Option V
  | .str s => (match undT T t, mx with | some .string, none => (boundsE E lo hi none s.length s.length).map (cutS s) | _, _ => none)
  | .sl id off n cap => ((elemT T t).bind (sizeT T)).bind fun z => (boundsE E lo hi mx n cap).map (cutL id off z)
  | .own id n => ((elemT T t).bind (sizeT T)).bind fun z => sliceOwn id n z lo hi mx E
  | .nils => (elemT T t).bind fun e => (sizeT T e).bind fun _ => (boundsE E lo hi mx 0 0).map fun _ => .nils
  | .ptr id off => (arrT T t).bind fun p => (sizeT T p.2).bind fun z => (boundsE E lo hi mx p.1 p.1).map (cutL id off z)
  | _ => none

def atE (id off n z i : Nat) : Option V := match Nat.ble (Nat.succ i) n with | true => some (.ptr id (Nat.add off (Nat.mul i z))) | false => none
/-- the length, if it is an array's, and the size of elements -/
inductive IW where
  | arr (n z : Nat)
  | sl (z : Nat)
  | str
  | no
def indexW (T : Tab) (t : TypeId) : IW :=
  match undT T t with
  | some (.array n e) => (match sizeT T e with | some z => .arr n z | none => .no)
  | some (.slice e) => (match sizeT T e with | some z => .sl z | none => .no)
  | some .string => .str
  | _ => .no
def indexS (z i : Nat) : V → Option V
  | .sl id off n _ => atE id off n z i
  | .own id n => atE id 0 n z i
  | _ => none
def indexP (n z i : Nat) : V → Option V
  | .ptr id off => atE id off n z i
  | _ => none
def indexAddrE (w : IW) (x : V) (i : Nat) : Option V :=
  match w with
  | .arr n z => indexP n z i x
  | .sl z => indexS z i x
  | _ => none
def indexC (n z i : Nat) (l : Lay1) : V → Option V
  | .agg cs => (match Nat.ble (Nat.succ i) n with | true => pieceL cs (Nat.mul i z) l | false => none)
  | _ => none
def indexB (i : Nat) : V → Option V
  | .str s => s[i]?.map byteV
  | _ => none
def elemA (T : Tab) (t : TypeId) : Lay1 := match undT T t with | some (.array _ e) => layT T e | _ => .no
def indexE (T : Tab) (t : TypeId) (x : V) (i : Nat) : Option V :=
  match indexW T t with
  | .arr n z => indexC n z i (elemA T t) x
  | .str => indexB i x
  | _ => none

def lenE : V → Option Nat
  | .nils => some 0
  | .str s => some s.length
  | .sl _ _ m _ => some m
  | .own _ m => some m
  | _ => none

/-- into new memory, behind old cells -/
def growE (el e k : Nat) (new : List V) (m : Mem) (n : Nat) (old : List V) : OR :=
  match Nat.ble (Nat.add n k) 1000000 with
  | true => .ok (.own m.n (Nat.add n k)) (m.add (rowE el e (old ++ new)))
  | false => no 30
def growO (el e k : Nat) (new : List V) (m : Mem) (n : Nat) : Option (List V) → OR
  | some old => growE el e k new m n old
  | none => no 33
/-- behind the cells of a block that may be as long as that, or not -/
def moreR (id e n k : Nat) (U : TypeId) (m : Mem) (c : Tr V) : OR := .ok (.own m.n (Nat.add n k)) ((m.add (.cells U e (Nat.mul (Nat.add n k) e) c)).drop id)
def moreC (e n z : Nat) (new : List V) (c : Tr V) : Option (Tr V) := match Nat.ble z (Nat.mul n e) with
  | true => some (putD new c (Nat.mul n e))
  | false => (takeD c (Nat.mul n e) 0).map fun l => putD (l ++ new) .nil 0
def moreM (id e n k : Nat) (U : TypeId) (m : Mem) : Option (Tr V) → OR
  | some c => moreR id e n k U m c
  | none => no 35
def moreO (el s id n k : Nat) (new : List V) (m : Mem) : Option O → OR
  | some (.cells U e z c) => (match Nat.beq U el && Nat.beq e s && Nat.ble (Nat.add n k) 1000000 with
    | true => moreM id e n k U m (moreC e n z new c)
    | false => no 34)
  | _ => no 36
def appSl (el s k id off n cap : Nat) (new : List V) (m : Mem) (x : V) : OR :=
  match Nat.ble (Nat.add n k) cap with
  | true => okM (.sl id off (Nat.add n k) cap) (putAt id (Nat.add off (Nat.mul n s)) new m)
  | false => growO el s k new m n (contents s m x)
def appendX (el s k : Nat) (new : List V) (m : Mem) (x : V) : OR :=
  match x with
  | .nils => (match Nat.beq k 0 with | true => .ok .nils m | false => growE el s k new m 0 [])
  | .sl id off n cap => appSl el s k id off n cap new m (.sl id off n cap)
  | .own id n => (match Nat.beq k 0 with | true => .ok (.own id n) m | false => moreO el s id n k new m (look m id))
  | _ => no 37
def appendE (y x : V) (m : Mem) : SW → OR
  | .mk el s bytes _ => (match Nat.ble bytes 100000, contents s m y, lenE y with
    | true, some new, some k => appendX el s k new m x
    | _, _, _ => no 38)
  | .no => no 40

/-- the kinds of keys that maps may have here -/
inductive KK where
  | int | str | bool | no
def keyK (T : Tab) (kt : TypeId) : KK := match undT T kt with
  | some d => (match d with | .int _ => .int | .string => .str | .bool => .bool | _ => .no)
  | none => .no
def sameS (x y : V) : Option Bool := match x with
  | .str a => (match y with | .str b => some (bytesEq a b) | _ => none)
  | _ => none
def sameB (x y : V) : Option Bool := match x with
  | .bool a => (match y with | .bool b => some (a == b) | _ => none)
  | _ => none
def keyEq : KK → V → V → Option Bool
  | .int => eqInt
  | .str => sameS
  | .bool => sameB
  | .no => fun _ _ => none
def findE (q : KK) (k : V) : List (V × V × Nat) → Option (Option V)
  | [] => some none
  | p :: r => match keyEq q k p.1 with
    | some true => some (some p.2.1)
    | some false => findE q k r
    | none => none
def entsO : Option O → Option (List (V × V × Nat))
  | some (.map es _) => some es
  | _ => none
def entsE (m : Mem) : V → Option (List (V × V × Nat))
  | .nilm => some []
  | .map id => entsO (look m id)
  | _ => none
def okT (ok b : Bool) (v : V) : V := match ok with | true => .tup [v, .bool b] | false => v
def lookF (T : Tab) (ok : Bool) (et : TypeId) : Option (Option V) → Option V
  | some (some v) => some (okT ok true v)
  | some none => (zeroE T et).map (okT ok false)
  | none => none
def KK.ok : KK → Bool
  | .no => false
  | _ => true
def lookupE (T : Tab) (t : TypeId) (y : V) (ok : Bool) (m : Mem) (x : V) : Option V :=
  match undT T t with
  | some (.map kt et) => (match (keyK T kt).ok with | true => (entsE m x).bind fun es => lookF T ok et (findE (keyK T kt) y es) | false => none)
  | _ => none

def setMap (q : KK) (k v : V) (clk : Nat) : List (V × V × Nat) → Option (List (V × V × Nat) × Nat)
  | [] => some ([(k, v, clk)], Nat.succ clk)
  | p :: r => match keyEq q k p.1 with
    | some true => some ((k, v, p.2.2) :: r, clk)
    | some false => (setMap q k v clk r).map fun q => (p :: q.1, q.2)
    | none => none
def delMap (q : KK) (k : V) : List (V × V × Nat) → Option (List (V × V × Nat))
  | [] => some []
  | p :: r => match keyEq q k p.1 with
    | some true => some r
    | some false => (delMap q k r).map (p :: ·)
    | none => none
def keyT (T : Tab) (t : TypeId) : KK := match undT T t with | some (.map k _) => keyK T k | _ => .no
def mapSetO (q : KK) (id : Nat) (k v : V) (m : Mem) : Option O → Option Mem
  | some (.map es clk) => (setMap q k v clk es).map fun q => m.put id (.map q.1 q.2)
  | _ => none
def mapSetE (T : Tab) (t : TypeId) (k v : V) (m : Mem) : V → OR
  | .map id => (match (keyT T t).ok with | true => okM (.tup []) (mapSetO (keyT T t) id k v m (look m id)) | false => no 51)
  | _ => no 52
def delO (q : KK) (id : Nat) (k : V) (m : Mem) : Option O → Option Mem
  | some (.map es clk) => (delMap q k es).map fun q => m.put id (.map q clk)
  | _ => none
def deleteE (T : Tab) (t : TypeId) (k : V) (m : Mem) : V → OR
  | .map id => (match (keyT T t).ok with | true => okM (.tup []) (delO (keyT T t) id k m (look m id)) | false => no 78)
  | _ => no 77

def lenS (m : Mem) : V → OR
  | .str s => .ok (.nn s.length) m
  | _ => no 70
def lenL (m : Mem) : V → OR
  | .len n => .ok (.nn n) m
  | .nils => .ok (.nn 0) m
  | .sl _ _ n _ => .ok (.nn n) m
  | .own _ n => .ok (.nn n) m
  | _ => no 72
def lenM (m : Mem) : V → OR
  | .map id => okO m ((entsO (look m id)).map fun es => .nn es.length)
  | .nilm => .ok (.nn 0) m
  | _ => no 73
def lenB (d : Option TypeDesc) (m : Mem) (x : V) : OR :=
  match d with
  | some .string => lenS m x
  | some (.slice _) => lenL m x
  | some (.map _ _) => lenM m x
  | some (.array n _) => .ok (.nn n) m
  | _ => no 74
def capL (m : Mem) : V → OR
  | .nils => .ok (.nn 0) m
  | .sl _ _ _ c => .ok (.nn c) m
  | _ => no 71
def capB (d : Option TypeDesc) (m : Mem) (x : V) : OR :=
  match d with
  | some (.slice _) => capL m x
  | _ => no 75

def copyP (s k : Nat) (new : List V) (m : Mem) : V → OR
  | .nils => .ok (.nn 0) m
  | .sl id off n _ => okM (.nn (Nat.min k n)) (putAt id off (new.take (Nat.mul (Nat.min k n) s)) m)
  | .own id n => okM (.nn (Nat.min k n)) (putAt id 0 (new.take (Nat.mul (Nat.min k n) s)) m)
  | _ => no 60
def copyE (y x : V) (m : Mem) : SW → OR
  | .mk _ s _ _ => (match lenE y, contents s m y with
    | some k, some new => copyP s k new m x
    | _, _ => no 61)
  | .no => no 63

def minE (lt : Bool) (x y : V) : Option V :=
  match toI x, toI y with
  | some p, some q => (match kEq p.1 q.1 with
    | true => (match decide (p.2 ≤ q.2) == lt with | true => some x | false => some y)
    | false => none)
  | _, _ => none

/-- an operation, made ready: what it does to slots, blocks and names -/
abbrev Act1 := Env → Mem → OR
inductive OW where
  | mk (f : Act1)

def a1 (f : Mem → V → OR) (x : Operand) : Act1 := fun E m => f m (opX E x)
def a2 (f : V → Mem → V → OR) (x y : Operand) : Act1 := fun E m => f (opX E y) m (opX E x)
def pickB (E : Env) (m : Mem) (a b : Operand) : V → OR
  | .bool t => (match t with | true => .ok (opX E a) m | false => .ok (opX E b) m)
  | _ => no 100
def boxE (T : Tab) (t : TypeId) (m : Mem) (x : V) : OR := match sizeT T t with
  | some s => (match Nat.beq x.cells.length s && x.okc with | true => .ok (.ptr m.n 0) (m.add (rowE t s x.cells)) | false => no 103)
  | none => no 104
def allocE (T : Tab) (t : TypeId) (m : Mem) : OR := match zeroE T t with | some z => boxE T t m z | none => no 101
def nilE (m : Mem) : V → OR
  | .ptr i a => .ok (.ptr i a) m
  | .func f a b => .ok (.func f a b) m
  | .iface t v => .ok (.iface t v) m
  | _ => no 105
def notE (m : Mem) : V → OR
  | .bool b => .ok (.bool (!b)) m
  | _ => no 106
def negE (m : Mem) (x : V) : OR := okO m ((toI x).map fun p => ofI p.1 (Int.neg p.2))
def faceE (T : Tab) (t : TypeId) (m : Mem) (x : V) : OR := match undT T t with
  | some (.interface _) => no 109
  | some _ => .ok (.iface t x) m
  | none => no 110
def makeSl (l c : Nat) (m : Mem) : SW → OR
  | .mk e s b z => (match Nat.ble l c && Nat.ble c 1000000 && Nat.ble b 100000 with | true => .ok (.sl m.n 0 l c) (m.add (rowE e s (rep z c))) | false => no 113)
  | .no => no 115
def makeSlE (T : Tab) (t : TypeId) (c : V) (m : Mem) (l : V) : OR := match toN l, toN c with
  | some l, some c => makeSl l c m (sliceW T t)
  | _, _ => no 114
/-- a field that has cells -/
inductive FW where
  | mk (off : Nat) (l : Lay1)
  | no
def fieldW (T : Tab) (t : TypeId) (f : Nat) : FW :=
  match fieldOf T t f with
  | some fd => (match sizeT T fd.type with | some (_ + 1) => .mk fd.offset (layT T fd.type) | _ => .no)
  | none => .no
def fieldAddrE (w : FW) (m : Mem) (x : V) : OR :=
  match w with
  | .mk off _ => (match x with | .ptr id o => .ok (.ptr id (Nat.add o off)) m | _ => no 116)
  | .no => no 117
def fieldE (w : FW) (m : Mem) (x : V) : OR :=
  match w with
  | .mk off l => (match x with | .agg cs => okO m (pieceL cs off l) | _ => no 118)
  | .no => no 119
def indexAddrV (T : Tab) (t : TypeId) (y : V) (m : Mem) (x : V) : OR := okO m ((toN y).bind (indexAddrE (indexW T t) x))
def indexV (T : Tab) (t : TypeId) (y : V) (m : Mem) (x : V) : OR := okO m ((toN y).bind (indexE T t x))
def assertE (T : Tab) (t : TypeId) (ok : Bool) (m : Mem) (x : V) : OR :=
  match undT T t with
  | some (.interface _) => no 120
  | some _ => (match x with
    | .iface u v => (match Nat.beq u t, ok with
      | true, _ => .ok (okT ok true v) m
      | false, true => okO m ((zeroE T t).map (okT true false))
      | false, false => no 121)
    | .nili => (match ok with | true => okO m ((zeroE T t).map (okT true false)) | false => no 123)
    | _ => no 124)
  | none => no 122
def extE (i : Nat) (m : Mem) : V → OR
  | .tup vs => okO m vs[i]?
  | _ => no 125
def callV (args : List V) : V → OR
  | .func f first caps => .ext (.call f (first ++ (args ++ caps)))
  | .yield l => .ext (.round l args)
  | _ => no 90
def deferV (args : List V) : V → OR
  | .func f first caps => .ext (.defer f (first ++ (args ++ caps)))
  | _ => no 126
def panE : V → OR
  | .iface t v => .ext (.pan (.iface t v))
  | _ => no 128
def notInt : Option TypeDesc → Bool
  | some (.int _) => false
  | some _ => true
  | none => false
def builtW (T : Tab) (b : Builtin) (ats : List TypeId) (args : List Operand) : OW :=
  match args with
  | [x] => (match b, ats with
    | .len, t :: _ => .mk (a1 (lenB (undT T t)) x)
    | .cap, t :: _ => .mk (a1 (capB (undT T t)) x)
    | _, _ => .mk fun _ _ => no 76)
  | [x, y] => (match b, ats with
    | .min, _ => .mk (a2 (fun y m x => okO m (minE true x y)) x y)
    | .max, _ => .mk (a2 (fun y m x => okO m (minE false x y)) x y)
    | .append, t :: u :: _ => (match notInt (undT T u) with | true => .mk (a2 (fun y m x => appendE y x m (sliceW T t)) x y) | false => .mk fun _ _ => no 77)
    | .copy, t :: _ => .mk (a2 (fun y m x => copyE y x m (sliceW T t)) x y)
    | .delete, t :: _ => .mk (a2 (deleteE T t) x y)
    | _, _ => .mk fun _ _ => no 80)
  | [] => (match b with | .recover => .mk (fun _ _ => .ext .recover) | _ => .mk fun _ _ => no 81)
  | _ => .mk fun _ _ => no 82
def callW (T : Tab) (c : Call) : OW :=
  match c.callee with
  | .builtin b => builtW T b c.argTypes.toList c.args.toList
  | .value f => .mk fun E _ => callV (c.args.toList.map (opX E)) (opX E f)
  | _ => .mk fun _ _ => no 91
def deferW (c : Call) : OW :=
  match c.callee with
  | .value f => .mk fun E _ => deferV (c.args.toList.map (opX E)) (opX E f)
  | _ => .mk fun _ _ => no 127
def unW (op : UnOp) (x : Operand) : OW :=
  match op with
  | .not => .mk (a1 notE x)
  | .neg => .mk (a1 negE x)
  | _ => .mk fun _ _ => no 108
def funW (fn : Fn) (first caps : List Operand) : OW :=
  match fn with
  | .func f => .mk fun E m => .ok (.func f (first.map (opX E)) (caps.map (opX E))) m
  | _ => .mk fun _ _ => no 111
def isMapT (T : Tab) (t : TypeId) : Bool := match undT T t with | some (.map _ _) => true | _ => false
def mkMap (m : Mem) : OR := .ok (.map m.n) (m.add (.map [] 0))
def mapR (T : Tab) (t : TypeId) (m : Mem) (y : V) : OR := match isMapT T t && (toI y).isSome with | true => mkMap m | false => no 112
def mapW (T : Tab) (t : TypeId) (r : Option Operand) : OW :=
  match r with
  | none => .mk fun _ m => mkMap m
  | some y => .mk (a1 (mapR T t) y)

def opW (T : Tab) (o : Op) : OW :=
  match o with
  | .move x => .mk fun E m => .ok (opX E x) m
  | .assign x => .mk fun E m => .ok (opX E x) m
  | .pick c a b => .mk fun E m => pickB E m a b (opX E c)
  | .alloc t => .mk fun _ m => allocE T t m
  | .box t x => .mk (a1 (boxE T t) x)
  | .build t ps => .mk fun E m => okO m (buildE ps.toList E (buildW T t))
  | .buildSlice t len ps => .mk fun E m => buildSliceE len ps.toList E m (sliceW T t)
  | .load t y => .mk fun E m => okO m (loadE T t m (opX E y))
  | .store t y x => .mk fun E m => storeP T t (opX E x) m (opX E y)
  | .nilCheck x => .mk (a1 nilE x)
  | .binOp op t x y _ => .mk fun E m => okO m (binE T op t (opX E y) (opX E x))
  | .unOp op _ x => unW op x
  | .convert s d x => .mk (a1 (convE T s d) x)
  | .makeInterface t x => .mk (a1 (faceE T t) x)
  | .makeFunc fn first caps => funW fn first.toList caps.toList
  | .makeMap t r => mapW T t r
  | .makeSlice t l c => .mk (a2 (makeSlE T t) l c)
  | .slice t x lo hi mx => .mk fun E m => okO m (sliceE T t lo hi mx E (opX E x))
  | .fieldAddr t x f => .mk (a1 (fieldAddrE (fieldW T t f)) x)
  | .field t x f => .mk (a1 (fieldE (fieldW T t f)) x)
  | .indexAddr t x y => .mk (a2 (indexAddrV T t) x y)
  | .index t x y => .mk (a2 (indexV T t) x y)
  | .lookup t x y ok => .mk fun E m => okO m (lookupE T t (opX E y) ok m (opX E x))
  | .mapUpdate t x k v => .mk fun E m => mapSetE T t (opX E k) (opX E v) m (opX E x)
  | .insert t x k v => .mk fun E m => mapSetE T t (opX E k) (opX E v) m (opX E x)
  | .typeAssert x _ t ok => .mk (a1 (assertE T t ok) x)
  | .extract t i => .mk (a1 (extE i) t)
  | .call c => callW T c
  | .defer c => deferW c
  | .panic x => .mk fun E _ => panE (opX E x)
  | _ => .mk fun _ _ => no 199

/-! ### the machine -/
inductive It where
  | code (c : Code)
  | blk (id : Nat)
  | lp (body : Code)
  | scp (body : Code)
  | reg (id : Nat) (all : Array Oper) (todo : List Oper)
  | rf (l : Nat)
  | erf (l : Nat)
  | br

inductive Md where
  | run
  | ret
  | pan (chain : List (V × Bool))

inductive Df where
  | call (f : FuncId) (args : List V)
  | mark (id : Nat)
structure Fr where
  fn : FuncId
  E : Env
  todo : List It
  dfs : List Df
  mode : Md
  df : Bool
  rnd : Option Nat

/-- what a frame is about, but for its slots and what is to be done -/
structure Cx where
  fn : FuncId
  dfs : List Df
  df : Bool
  rnd : Option Nat
  cs : List Fr

/-- an operation made ready: with its slot; with its guard -/
inductive PW where
  | un (f : Act1) (t : Nat)
  | uz (f : Act1)
  | gd (f : Act1) (t : Option Nat) (g : Nat) (want : Bool)
  | no
def prepD (f : Act1) : Option Nat → PW
  | some t => .un f t
  | none => .uz f
def dstOf (all : Array Oper) (j : Nat) : Option Nat := all.toList[j]?.bind (·.dst)
def prepG (all : Array Oper) (f : Act1) (d : Option Nat) (p : Nat × Bool) : PW :=
  match dstOf all p.1 with
  | some g => .gd f d g p.2
  | none => .no
def prepF (all : Array Oper) (o : Oper) : OW → PW
  | .mk f => (match o.guard with
    | none => prepD f o.dst
    | some p => prepG all f o.dst p)
def prep (T : Tab) (all : Array Oper) (o : Oper) : PW := prepF all o (opW T o.op)

def wantE (want : Bool) : V → Option Bool
  | .bool b => some (b == want)
  | .tup vs => (match vs with | [] => some false | _ => none)
  | _ => none

def put (d : Option Nat) (x : V) (E : Env) : Env := match d with | some t => (t, x) :: E | none => E

def isRec : Builtin → Bool
  | .recover => true
  | _ => false
def isXC : Callee → Bool
  | .value _ => true
  | .builtin b => isRec b
  | _ => false
def isX : Op → Bool
  | .call c => isXC c.callee
  | .defer _ => true
  | .panic _ => true
  | _ => false

/-- operations, up to the end or to one that needs the machine -/
inductive SR where
  | fin (E : Env) (m : Mem)
  | out (r : XR) (rest : List Oper) (o : Oper) (E : Env) (m : Mem)

def opsE (T : Tab) (all : Array Oper) : List Oper → Env → Mem → SR
  | [] => fun E m => .fin E m
  | o :: os => fun E m => match prep T all o with
    | .un f t => (match f E m with
      | .ok x m' => opsE T all os ((t, x) :: E) m'
      | .ext r => .out r os o E m)
    | .uz f => (match f E m with
      | .ok _ m' => opsE T all os E m'
      | .ext r => .out r os o E m)
    | .gd f d g w => (match wantE w (get E g) with
      | some true => (match f E m with
        | .ok x m' => opsE T all os (put d x E) m'
        | .ext r => .out r os o E m)
      | some false => opsE T all os (put d (.tup []) E) m
      | none => .out (.no 200) os o E m)
    | .no => .out (.no 201) os o E m

def resOne (T : Tab) (E : Env) (m : Mem) : ResultVar → Option V
  | .tmp t => some (get E t)
  | .cell t ty => loadE T ty m (get E t)
def resE (T : Tab) (E : Env) (m : Mem) : List ResultVar → Option (List V)
  | [] => some []
  | r :: rs => match resOne T E m r, resE T E m rs with
    | some x, some l => some (x :: l)
    | _, _ => none

def argsE : List V → Nat → Env
  | [] => fun _ => []
  | x :: xs => fun i => (i, x) :: argsE xs (Nat.succ i)

def exitE (id : Nat) : List It → Option (List It)
  | [] => none
  | it :: k => match it with
    | .blk id' => (match Nat.beq id' id with | true => some k | false => exitE id k)
    | _ => exitE id k

/-- what the machine answers at last -/
inductive MR where
  | ret (v : V) (m : Mem)
  | pan (chain : List (V × Bool)) (m : Mem)
  | no (why fn : Nat)

/-- what calls answer, one level below -/
abbrev Rec := FuncId → List V → Mem → MR
/-- what a region that draws its order answers -/
inductive DR where
  | fin (E : Env) (m : Mem)
  | pan (chain : List (V × Bool)) (E : Env) (m : Mem)
  /-- a map of these entries, in any order -/
  | lit (E : Env) (m : Mem) (id : Nat) (ls : List (V × V))
  | no (why : Nat)
/-- operations that turn no block -/
def notSl : Option TypeDesc → Bool
  | some (.slice _) => false
  | some _ => true
  | none => false
def lightB : Builtin → Bool
  | .len => true
  | .cap => true
  | .min => true
  | .max => true
  | _ => false
def lightC : Callee → Bool
  | .builtin b => lightB b
  | _ => false
def isLight (T : Tab) : Op → Bool
  | .move _ => true
  | .assign _ => true
  | .pick _ _ _ => true
  | .load _ _ => true
  | .nilCheck _ => true
  | .binOp _ _ _ _ _ => true
  | .unOp _ _ _ => true
  | .makeInterface _ _ => true
  | .makeFunc _ _ _ => true
  | .slice _ _ _ _ _ => true
  | .fieldAddr _ _ _ => true
  | .field _ _ _ => true
  | .indexAddr _ _ _ => true
  | .index _ _ _ => true
  | .lookup _ _ _ _ => true
  | .typeAssert _ _ _ _ => true
  | .extract _ _ => true
  | .build _ _ => true
  | .convert _ d _ => notSl (undT T d)
  | .call c => lightC c.callee
  | _ => false

/-- operations that read blocks -/
def isRead : Op → Bool
  | .load _ _ => true
  | .convert _ _ _ => true
  | .lookup _ _ _ _ => true
  | .call _ => true
  | _ => false

def bit (m n : Nat) : Bool := Nat.beq (Nat.mod (Nat.div m (Nat.pow 2 n)) 2) 1
/-- m is within n -/
def sub (m n : Nat) : Bool := Nat.beq (Nat.land m n) m
/-- what must come before, by number -/
def preRow (acc : List Nat) : List Edge → Nat → Nat
  | [] => fun s => s
  | e :: es => fun s => match Region.binds .any e with
    | true => preRow acc es (Nat.lor (Nat.lor s (Nat.pow 2 e.on)) (acc.getD e.on 0))
    | false => preRow acc es s
def preRows : List Oper → List Nat → List Nat
  | [] => fun acc => acc
  | o :: os => fun acc => preRows os (acc ++ [preRow acc o.after.toList 0])

/-- an operation in its place: its number, whether it turns blocks, what must come before; 1: it makes the map of a map literal; 2: it lays an entry into it -/
structure PS where
  j : Nat
  o : Oper
  ch : Bool
  pre : Nat
  sd : Nat
/-- the first map that is made: its slot and its type -/
def litS (os : List Oper) (t : TypeId) : Option Nat → Option (Nat × TypeId) → Option (Nat × TypeId)
  | some u => fun _ => some (u, t)
  | none => fun r => r
def litOf : List Oper → Option (Nat × TypeId)
  | [] => none
  | o :: os => match o.op with
    | .makeMap t r => (match r with | none => litS os t o.dst (litOf os) | some _ => litOf os)
    | _ => litOf os
def sdMk (p : Nat × TypeId) (t : TypeId) (d : Option Nat) : Nat := match d with
  | some u => (match Nat.beq u p.1 && Nat.beq t p.2 with | true => 1 | false => 0)
  | none => 0
def sdIns (p : Nat × TypeId) (t : TypeId) (y : Operand) : Nat := match y with
  | .tmp u => (match Nat.beq u p.1 && Nat.beq t p.2 with | true => 2 | false => 0)
  | _ => 0
def sdL (lit : Option (Nat × TypeId)) (f : Nat × TypeId → Nat) : Nat := match lit with
  | some p => f p
  | none => 0
def sdO (lit : Option (Nat × TypeId)) (o : Oper) : Nat := match o.op with
  | .makeMap t r => (match r with | none => sdL lit fun p => sdMk p t o.dst | some _ => 0)
  | .insert t y _ _ => sdL lit fun p => sdIns p t y
  | .alloc _ => 3
  | _ => 0
/-- none: no operation stands apart; some: maps that are made, and new blocks, do -/
def sdOf (md : Option (Option (Nat × TypeId))) (o : Oper) : Nat := match md with
  | none => 0
  | some lit => sdO lit o
def mkPSs (T : Tab) (lit : Option (Option (Nat × TypeId))) : List Oper → List Nat → Nat → List PS
  | [] => fun _ _ => []
  | o :: os => fun rows j => match rows with
    | r :: rs => ⟨j, o, !isLight T o.op && Nat.beq (sdOf lit o) 0, r, sdOf lit o⟩ :: mkPSs T lit os rs (Nat.succ j)
    | [] => []

/-- in which order operations are taken: those that turn no block, those that do, new blocks -/
def rank (s : PS) : Nat := match s.ch with
  | true => 1
  | false => (match Nat.beq s.sd 3 with | true => 2 | false => 0)
/-- the first that is ready, and the rest -/
def pickP (want : Nat) (done : Nat) : List PS → Option (PS × List PS)
  | [] => none
  | s :: r => match Nat.beq (rank s) want && sub s.pre done with
    | true => some (s, r)
    | false => (pickP want done r).map fun q => (q.1, s :: q.2)
def orP : Option (PS × List PS) → Option (PS × List PS) → Option (PS × List PS)
  | some x => fun _ => some x
  | none => fun y => y
def pickQ (done : Nat) (l : List PS) : Option (PS × List PS) := orP (pickP 0 done l) (orP (pickP 1 done l) (pickP 2 done l))
def orderP : Nat → List PS → Nat → List PS
  | 0 => fun _ _ => []
  | n + 1 => fun l done => match pickQ done l with
    | some q => q.1 :: orderP n q.2 (Nat.lor done (Nat.pow 2 q.1.j))
    | none => []

/-- slots that an operation looks at -/
def tmpsOf : List Operand → List Nat
  | [] => []
  | y :: ys => match y with
    | .tmp t => t :: tmpsOf ys
    | _ => tmpsOf ys
def has (t : Nat) : List Nat → Bool
  | [] => false
  | a :: r => match Nat.beq t a with | true => true | false => has t r
def gslot (all : Array Oper) : Option (Nat × Bool) → List Nat
  | some p => (match dstOf all p.1 with | some g => [g] | none => [])
  | none => []
def looks (all : Array Oper) (o : Oper) : List Nat := gslot all o.guard ++ tmpsOf o.op.operands.toList
def freeOf (d : Option Nat) (l : List Nat) : Bool := match d with | some t => !has t l | none => true
def neq (a b : Option Nat) : Bool := match a with
  | some x => (match b with | some y => !Nat.beq x y | none => true)
  | none => true
def apartE (all : Array Oper) (a b : Oper) : Bool := freeOf a.dst (looks all b) && (freeOf b.dst (looks all a) && neq a.dst b.dst)
/-- a later operation against all earlier ones -/
def pairsE (all : Array Oper) (t : PS) : List PS → Bool
  | [] => true
  | s :: r => match bit t.pre s.j || apartE all s.o t.o with | true => pairsE all t r | false => false
def edgesE (seen : Nat) : List Edge → Bool
  | [] => true
  | e :: es => match !Region.binds .any e || bit seen e.on with | true => edgesE seen es | false => false
def isSel : Op → Bool
  | .select _ _ => true
  | _ => false
/-- whether an operation looks at blocks -/
def mmS (t : PS) : Bool := t.ch || (Nat.beq t.sd 0 && isRead t.o.op)
def isMv (t : PS) : Bool := t.ch || Nat.beq t.sd 3
/-- an order serves -/
def orderOk (all : Array Oper) : List PS → List PS → Nat → Nat → Bool
  | [] => fun _ seen _ => Nat.beq (Nat.succ seen) (Nat.pow 2 all.size)
  | t :: r => fun before seen chain => match !bit seen t.j && (edgesE seen t.o.after.toList && ((!mmS t || sub chain t.pre) && (pairsE all t before && !isSel t.o.op))) with
    | true => orderOk all r (t :: before) (Nat.lor seen (Nat.pow 2 t.j)) (match isMv t with | true => Nat.lor chain (Nat.pow 2 t.j) | false => chain)
    | false => false
def planE (T : Tab) (lit : Option (Option (Nat × TypeId))) (ops : Array Oper) : List PS := orderP (Nat.succ ops.size) (mkPSs T lit ops.toList (preRows ops.toList []) 0) 0

/-- values that are surely the same -/
def vEq1 (x y : V) : Bool := match x with
  | .nn a => (match y with | .nn b => Nat.beq a b | _ => false)
  | .int k a => (match y with | .int j b => kEq k j && decide (a = b) | _ => false)
  | .bool a => (match y with | .bool b => a == b | _ => false)
  | .str a => (match y with | .str b => bytesEq a b | _ => false)
  | .nilp => (match y with | .nilp => true | _ => false)
  | .nils => (match y with | .nils => true | _ => false)
  | .nilm => (match y with | .nilm => true | _ => false)
  | .nilf => (match y with | .nilf => true | _ => false)
  | .nili => (match y with | .nili => true | _ => false)
  | .ptr a b => (match y with | .ptr c d => Nat.beq a c && Nat.beq b d | _ => false)
  | .sl a b n c => (match y with | .sl a' b' n' c' => Nat.beq a a' && (Nat.beq b b' && (Nat.beq n n' && Nat.beq c c')) | _ => false)
  | .own a n => (match y with | .own b m => Nat.beq a b && Nat.beq n m | _ => false)
  | .map a => (match y with | .map b => Nat.beq a b | _ => false)
  | .func f a b => (match y with | .func g c d => Nat.beq f g && (a.isEmpty && (b.isEmpty && (c.isEmpty && d.isEmpty))) | _ => false)
  | .any => (match y with | .any => true | _ => false)
  | _ => false
def vEqL : List V → List V → Bool
  | [] => fun l => l.isEmpty
  | x :: xs => fun l => match l with
    | y :: ys => (match vEq1 x y with | true => vEqL xs ys | false => false)
    | [] => false
def vEq (x y : V) : Bool := match x with
  | .agg a => (match y with | .agg b => vEqL a b | _ => false)
  | .tup a => (match y with | .tup b => vEqL a b | _ => false)
  | x => vEq1 x y

/-- an operation whose answer must not turn while it may still be run -/
structure Fl where
  j : Nat
  f : Act1
  E : Env
  x : V
def sameR (x : V) : OR → Bool
  | .ok y _ => vEq y x
  | .ext _ => false
def recheck (pre : Nat) (m : Mem) : List Fl → Bool
  | [] => true
  | p :: r => match bit pre p.j || sameR p.x (p.f p.E m) with | true => recheck pre m r | false => false

def actW : OW → Act1
  | .mk f => f
/-- whether an operation is to be run -/
def wantG (all : Array Oper) (E : Env) : Option (Nat × Bool) → Option Bool
  | none => some true
  | some p => (dstOf all p.1).bind fun g => wantE p.2 (get E g)
def anyD (all : List Oper) (E : Env) : Env := match all with
  | [] => E
  | o :: os => put o.dst .any (anyD os E)

abbrev Cont := Env → Mem → List Fl → Option (List (V × V)) → DR
def drawC (k : Cont) (d : Option Nat) (pre : Nat) (E : Env) (fl : List Fl) (ls : Option (List (V × V))) (x : V) (m : Mem) : DR := match recheck pre m fl with
  | true => k (put d x E) m fl ls
  | false => .no 401
/-- all of these come behind an operation -/
def behind (j : Nat) : List PS → Bool
  | [] => true
  | t :: r => match bit t.pre j with | true => behind j r | false => false
def drawR (r : List PS) (j : Nat) (k : Cont) (d : Option Nat) (pre : Nat) (E : Env) (fl : List Fl) (ls : Option (List (V × V))) (E0 : Env) : MR → DR
  | .ret v m => drawC k d pre E fl ls v m
  | .pan ch m => (match behind j r with | true => .pan ch E0 m | false => .no 413)
  | .no w f => .no (Nat.add (Nat.mul w 10000) f)
def drawS (r : List PS) (j : Nat) (rec : Rec) (k : Cont) (d : Option Nat) (pre : Nat) (E : Env) (m : Mem) (fl : List Fl) (ls : Option (List (V × V))) (E0 : Env) (f : FuncId) (args : List V) : Option V → DR
  | some v => k (put d v E) m fl ls
  | none => drawR r j k d pre E fl ls E0 (rec f args m)
def drawX (r : List PS) (j : Nat) (T : Tab) (rec : Rec) (k : Cont) (d : Option Nat) (pre : Nat) (E : Env) (m : Mem) (fl : List Fl) (ls : Option (List (V × V))) (E0 : Env) : XR → DR
  | .call f args => drawS r j rec k d pre E m fl ls E0 f args (T.sum f args)
  | .no w => .no w
  | _ => .no 403
def flAdd (o : Op) (p : Fl) (fl : List Fl) : List Fl := match isRead o with | true => p :: fl | false => fl
def drawF (r : List PS) (T : Tab) (rec : Rec) (k : Cont) (s : PS) (E : Env) (m : Mem) (fl : List Fl) (ls : Option (List (V × V))) (E0 : Env) (f : Act1) : OR → DR
  | .ok x m' => (match s.ch with
    | false => k (put s.o.dst x E) m (flAdd s.o.op ⟨s.j, f, E, x⟩ fl) ls
    | true => drawC k s.o.dst s.pre E fl ls x m')
  | .ext xr => (match s.ch && isX s.o.op with
    | true => drawX r s.j T rec k s.o.dst s.pre E m fl ls E0 xr
    | false => .no 404)
def drawG (r : List PS) (T : Tab) (rec : Rec) (k : Cont) (s : PS) (E : Env) (m : Mem) (fl : List Fl) (ls : Option (List (V × V))) (E0 : Env) (f : Act1) : Option Bool → DR
  | some b => (match b with
    | true => drawF r T rec k s E m fl ls E0 f (f E m)
    | false => k (put s.o.dst (.tup []) E) m fl ls)
  | none => .no 402
/-- a key that none of those is -/
def newKey (q : KK) (x : V) : List (V × V) → Bool
  | [] => true
  | p :: r => match keyEq q x p.1, keyEq q p.1 x with
    | some false, some false => newKey q x r
    | _, _ => false
def insW (T : Tab) (id : Nat) (t : TypeId) (m k v : V) (ls : List (V × V)) : Option (List (V × V)) := match m with
  | .map i => (match Nat.beq i id && (keyT T t).ok && newKey (keyT T t) k ls with | true => some (ls ++ [(k, v)]) | false => none)
  | _ => none
def insO (T : Tab) (id : Nat) (E : Env) (ls : List (V × V)) (o : Op) : Option (List (V × V)) := match o with
  | .insert t y k v => insW T id t (opX E y) (opX E k) (opX E v) ls
  | _ => none
def drawI (k : Cont) (d : Option Nat) (E : Env) (m : Mem) (fl : List Fl) : Option (List (V × V)) → DR
  | some ls => k (put d (.tup []) E) m fl (some ls)
  | none => .no 406
/-- the name of a new block -/
def idA (id j : Nat) : Nat := Nat.add (Nat.succ id) j
def allocO (T : Tab) (t : TypeId) : Option O := match zeroE T t with
  | some z => (match sizeT T t with
    | some s => (match Nat.beq z.cells.length s && z.okc with | true => some (rowE t s z.cells) | false => none)
    | none => none)
  | none => none
def drawA (T : Tab) (k : Cont) (d : Option Nat) (E : Env) (m : Mem) (fl : List Fl) (ls : Option (List (V × V))) (id : Nat) (o : Op) : DR := match o with
  | .alloc t => (match allocO T t with | some ob => k (put d (.ptr id 0) E) (m.put id ob) fl ls | none => .no 410)
  | _ => .no 411
def drawM1 (k : Cont) (s : PS) (E : Env) (m : Mem) (fl : List Fl) (ls : Option (List (V × V))) (id : Nat) : DR := match ls with
  | none => k (put s.o.dst (.map id) E) m fl (some [])
  | some _ => .no 409
def drawM2 (T : Tab) (k : Cont) (s : PS) (E : Env) (m : Mem) (fl : List Fl) (ls : Option (List (V × V))) (id : Nat) : DR := match ls with
  | some l => drawI k s.o.dst E m fl (insO T id E l s.o.op)
  | none => .no 408
/-- a map is made, or an entry is laid into it; a new block -/
def drawD (T : Tab) (k : Cont) (s : PS) (E : Env) (m : Mem) (fl : List Fl) (ls : Option (List (V × V))) (id : Nat) : DR := match s.o.guard with
  | some _ => .no 407
  | none => (match Nat.beq s.sd 1 with
    | true => drawM1 k s E m fl ls id
    | false => (match Nat.beq s.sd 2 with
      | true => drawM2 T k s E m fl ls id
      | false => (match Nat.beq s.sd 3 with | true => drawA T k s.o.dst E m fl ls (idA id s.j) s.o.op | false => .no 412)))
def finD (id : Nat) (E : Env) (m : Mem) : Option (List (V × V)) → DR
  | none => .fin E m
  | some ls => .lit E m id ls
def drawL (T : Tab) (rec : Rec) (all : Array Oper) (id : Nat) (E0 : Env) : List PS → Cont
  | [] => fun E m _ ls => finD id E m ls
  | s :: r => fun E m fl ls => match s.sd with
    | 0 => drawG r T rec (drawL T rec all id E0 r) s E m fl ls E0 (actW (opW T s.o.op)) (wantG all E s.o.guard)
    | _ => drawD T (drawL T rec all id E0 r) s E m fl ls id
/-- names are kept free for the map of a literal, and for new blocks -/
def keep (m : Mem) (n : Nat) : Mem := ⟨m.H, Nat.succ (idA m.n n)⟩
def drawQ (T : Tab) (rec : Rec) (ops : Array Oper) (E : Env) (m : Mem) (l : List PS) : DR := match orderOk ops l [] 0 0 with
  | true => drawL T rec ops m.n (anyD ops.toList E) l E (keep m ops.size) [] none
  | false => .no 400
def drawP (T : Tab) (rec : Rec) (ops : Array Oper) (E : Env) (m : Mem) (l : List PS) : DR := match orderOk ops l [] 0 0 with
  | true => drawL T rec ops m.n (anyD ops.toList E) l E (keep m 0) [] none
  | false => drawQ T rec ops E m (planE T (some (litOf ops.toList)) ops)
def drawE (T : Tab) (rec : Rec) (ops : Array Oper) (E : Env) (m : Mem) : DR := drawP T rec ops E m (planE T none ops)

def tupE : List V → V
  | [x] => x
  | l => .tup l

/-- keep: what a slot list is cut down to behind a region -/
abbrev Hint := FuncId → Nat → Option (List Nat)
def cutE (E : Env) : List Nat → Env
  | [] => []
  | t :: ts => (t, get E t) :: cutE E ts

/-- the machine: a frame that runs, or one that does so no more -/
inductive ST where
  | go (E : Env) (todo : List It) (x : Cx) (m : Mem)
  | lft (md : Md) (E : Env) (todo : List It) (x : Cx) (m : Mem)
  | fin (r : MR)
def stop (w f : Nat) : ST := .fin (.no w f)

/-- slots that code turns are there -/
def okD (n : Nat) (o : Oper) : Bool := match o.dst with | some d => Nat.ble (Nat.succ d) n | none => true
def okOps (n : Nat) (ops : Array Oper) : Bool := ops.toList.all (okD n)
def okC (n : Nat) : Code → Bool
  | .seq a b => okC n a && okC n b
  | .cond _ a b => okC n a && okC n b
  | .block _ a => okC n a
  | .loop a => okC n a
  | .scope a => okC n a
  | .region _ ops _ => okOps n ops
  | .rangeFunc _ ps a b => ps.toList.all (fun d => Nat.ble (Nat.succ d) n) && (okC n a && okC n b)
  | _ => true

def bodyOf (T : Tab) (f : FuncId) : Option Code := (T.funcs.get f).bind (·.body)
def enterB (f : FuncId) (args : List V) (df : Bool) (cs : List Fr) (m : Mem) : Option Code → ST
  | some c => .go (argsE args 0) [.code c] ⟨f, [], df, none, cs⟩ m
  | none => stop 310 f
/-- a function is entered -/
def enterE (T : Tab) (f : FuncId) (args : List V) (df : Bool) (cs : List Fr) (m : Mem) : ST := enterB f args df cs m (bodyOf T f)

/-- a frame goes on in its mode -/
def resume (c : Fr) (cs : List Fr) (m : Mem) : Md → ST
  | .run => .go c.E c.todo ⟨c.fn, c.dfs, c.df, c.rnd, cs⟩ m
  | md => .lft md c.E c.todo ⟨c.fn, c.dfs, c.df, c.rnd, cs⟩ m
/-- a frame goes on with the answer to what it waits for -/
def finI (c : Fr) (v : V) (cs : List Fr) (m : Mem) : List It → ST
  | [] => stop 350 c.fn
  | it :: k => match it with
    | .reg id all os => (match os with
      | o :: os => .go (put o.dst v c.E) (.reg id all os :: k) ⟨c.fn, c.dfs, c.df, c.rnd, cs⟩ m
      | [] => stop 351 c.fn)
    | .rf l => .go c.E (.erf l :: k) ⟨c.fn, c.dfs, c.df, c.rnd, cs⟩ m
    | _ => stop 352 c.fn
def finE (c : Fr) (v : V) (cs : List Fr) (m : Mem) : ST := match c.mode with
  | .run => finI c v cs m c.todo
  | _ => stop 353 c.fn

def isRet : Code → Bool
  | .ret => true
  | _ => false
def setLp (st : LoopState) (p : Option Code) (l : Nat) (m : Mem) : Option O → Option Mem
  | some (.loop _ _ f E ps a b d) => some (m.put l (.loop st p f E ps a b d))
  | _ => none
def leaveR (j : Option Code) (x : Cx) (c : Fr) (cs : List Fr) : Option Mem → ST
  | some m => finE c (.bool j.isNone) cs m
  | none => stop 302 x.fn
def jumpSt : Option Code → LoopState
  | none => .ready
  | some _ => .done
def leaveL (j : Option Code) (l : Nat) (x : Cx) (m : Mem) : List Fr → ST
  | c :: cs => (match x.df with | false => leaveR j x c cs (setLp (jumpSt j) j l m (look m l)) | true => stop 303 x.fn)
  | [] => stop 301 x.fn
def leaveE (jump : Option Code) (E : Env) (todo : List It) (x : Cx) (m : Mem) : ST :=
  match x.rnd with
  | none => (match jump with
    | none => .lft .ret E todo x m
    | some c => (match isRet c with | true => .lft .ret E todo x m | false => stop 300 x.fn))
  | some l => leaveL jump l x m x.cs

def roundD : List Nat → List V → Env → Env
  | [] => fun _ E => E
  | p :: ps => fun args E => match args with
    | x :: xs => roundD ps xs ((p, x) :: E)
    | [] => E
def roundO (l : Nat) (args : List V) (cs : List Fr) (m : Mem) (fn : FuncId) : Option O → ST
  | some (.loop _ _ f E ps a b _) => (match Nat.beq ps.length args.length with
    | true => .go (roundD ps args E) [.code a, .br, .code b] ⟨f, [], false, some l, cs⟩ m
    | false => stop 312 fn)
  | _ => stop 313 fn
def caught (E : Env) (todo : List It) (x : Cx) (d : Option Nat) (m : Mem) (c : Fr) (cs : List Fr) : Md → ST
  | .pan ((v, false) :: older) => .go (put d v E) todo ⟨x.fn, x.dfs, x.df, x.rnd, { c with mode := .pan ((v, true) :: older) } :: cs⟩ m
  | _ => .go (put d .nili E) todo x m
def recoverE (E : Env) (todo : List It) (x : Cx) (d : Option Nat) (m : Mem) : ST :=
  match x.df, x.rnd with
  | true, none => (match x.cs with | c :: cs => caught E todo x d m c cs c.mode | [] => stop 315 x.fn)
  | false, none => .go (put d .nili E) todo x m
  | _, some _ => stop 316 x.fn
def here (E : Env) (todo : List It) (x : Cx) : List Fr := ⟨x.fn, E, todo, x.dfs, .run, x.df, x.rnd⟩ :: x.cs
def deferE (E : Env) (todo : List It) (x : Cx) (m : Mem) (p : FuncId × List V) : ST :=
  match x.rnd with
  | none => .go E todo ⟨x.fn, .call p.1 p.2 :: x.dfs, x.df, none, x.cs⟩ m
  | some _ => stop 314 x.fn
def sumM (T : Tab) (f : FuncId) (args : List V) (cs : List Fr) (put : V → Env → Env) (E : Env) (todo : List It) (x : Cx) (m : Mem) : Option V → ST
  | some v => .go (put v E) todo x m
  | none => enterE T f args false cs m
/-- an operation that needs the machine; it stands ahead -/
def callM (T : Tab) (id : Nat) (all : Array Oper) (o : Oper) (os : List Oper) (k : List It) (E : Env) (x : Cx) (m : Mem) : XR → ST
  | .call f args => sumM T f args (here E (.reg id all (o :: os) :: k) x) (put o.dst) E (.reg id all os :: k) x m (T.sum f args)
  | .round l args => roundO l args (here E (.reg id all (o :: os) :: k) x) m x.fn (look m l)
  | .pan v => .lft (.pan [(v, false)]) E (.reg id all (o :: os) :: k) x m
  | .defer f args => deferE (put o.dst (.tup []) E) (.reg id all os :: k) x m (f, args)
  | .recover => recoverE E (.reg id all os :: k) x o.dst m
  | .no w => stop w x.fn

abbrev Act2 := Env → List It → Cx → Mem → ST
inductive CW where
  | mk (f : Act2)
def condB (E : Env) (k : List It) (x : Cx) (m : Mem) (a b : Code) : V → ST
  | .bool t => (match t with | true => .go E (.code a :: k) x m | false => .go E (.code b :: k) x m)
  | _ => stop 320 x.fn
def exitC (id : Nat) (E : Env) (k : List It) (x : Cx) (m : Mem) : Option (List It) → ST
  | some k' => .go E k' x m
  | none => leaveE (some (.exit id)) E k x m
def rangeV (T : Tab) (ps : List Nat) (a b : Code) (E : Env) (k : List It) (x : Cx) (m : Mem) : V → ST
  | .func g first caps => enterE T g (first ++ (V.yield (Nat.succ m.n) :: caps)) false (here E (.rf (Nat.succ m.n) :: k) ⟨x.fn, .mark m.n :: x.dfs, x.df, x.rnd, x.cs⟩) ((m.add .deferred).add (.loop .ready none x.fn E ps a b m.n))
  | _ => stop 321 x.fn
def rangeC (T : Tab) (f : Operand) (ps : List Nat) (a b : Code) (E : Env) (k : List It) (x : Cx) (m : Mem) : ST :=
  match x.rnd with
  | none => rangeV T ps a b E k x m (opX E f)
  | some _ => stop 322 x.fn
def seqC (a b : Code) (E : Env) (k : List It) (x : Cx) (m : Mem) : ST := .go E (.code a :: .code b :: k) x m
def itC (it : It) (a : Code) (E : Env) (k : List It) (x : Cx) (m : Mem) : ST := .go E (.code a :: it :: k) x m
def regE (k : List It) (x : Cx) (E : Env) (m : Mem) : Option (List Nat) → ST
  | some ts => .go (cutE E ts) k x m
  | none => .go E k x m
def drawM (hint : Hint) (id : Nat) (k : List It) (x : Cx) : DR → ST
  | .fin E m => regE k x E m (hint x.fn id)
  | .pan ch E m => .lft (.pan ch) E k x m
  | .lit _ _ _ _ => stop 405 x.fn
  | .no w => stop w x.fn
def regC (T : Tab) (rec : Rec) (hint : Hint) (id : Nat) (ops : Array Oper) (draw : Bool) : CW := match draw with
  | false => .mk fun E k x m => .go E (.reg id ops ops.toList :: k) x m
  | true => .mk fun E k x m => drawM hint id k x (drawE T rec ops E m)
def codeW (T : Tab) (rec : Rec) (hint : Hint) (c : Code) : CW :=
  match c with
  | .skip => .mk .go
  | .label _ => .mk .go
  | .ret => .mk (leaveE (some .ret))
  | .seq a b => .mk (seqC a b)
  | .cond y a b => .mk fun E k x m => condB E k x m a b (opX E y)
  | .block id a => .mk (itC (.blk id) a)
  | .loop a => .mk (itC (.lp a) a)
  | .scope a => .mk (itC (.scp a) a)
  | .exit id => .mk fun E k x m => exitC id E k x m (exitE id k)
  | .region id ops draw => regC T rec hint id ops draw
  | .rangeFunc f ps a b => .mk (rangeC T f ps.toList a b)
  | _ => .mk fun _ _ x _ => stop 323 x.fn

def codeM (E : Env) (k : List It) (x : Cx) (m : Mem) : CW → ST
  | .mk f => f E k x m
def regM (T : Tab) (hint : Hint) (id : Nat) (all : Array Oper) (k : List It) (x : Cx) : SR → ST
  | .fin E m => regE k x E m (hint x.fn id)
  | .out r os o E m => (match isX o.op with | true => callM T id all o os k E x m r | false => stop (match r with | .no w => w | _ => 350) x.fn)
def brO (E : Env) (k : List It) (x : Cx) (l : Nat) (m : Mem) : Option O → ST
  | some (.loop st p f E' ps a b d) => (match st with
    | .ready => .go E k x (m.put l (.loop .busy p f E' ps a b d))
    | _ => stop 329 x.fn)
  | _ => stop 330 x.fn
def brM (E : Env) (k : List It) (x : Cx) (m : Mem) : Option Nat → ST
  | some l => brO E k x l m (look m l)
  | none => stop 331 x.fn
def erfO (E : Env) (k : List It) (x : Cx) (l : Nat) (m : Mem) : Option O → ST
  | some (.loop st p f E' ps a b d) => (match st with
    | .busy => stop 332 x.fn
    | _ => (match p with
      | some c => .go E (.code c :: k) x (m.put l (.loop .exhausted p f E' ps a b d))
      | none => .go E k x (m.put l (.loop .exhausted p f E' ps a b d))))
  | _ => stop 333 x.fn
def itM (T : Tab) (rec : Rec) (hint : Hint) (E : Env) (k : List It) (x : Cx) (m : Mem) : It → ST
  | .code c => codeM E k x m (codeW T rec hint c)
  | .blk _ => .go E k x m
  | .scp _ => .go E k x m
  | .lp a => .go E (.code a :: .lp a :: k) x m
  | .reg id all os => regM T hint id all k x (opsE T all os E m)
  | .br => brM E k x m x.rnd
  | .erf l => erfO E k x l m (look m l)
  | .rf _ => stop 334 x.fn
def runM (T : Tab) (rec : Rec) (hint : Hint) (E : Env) (x : Cx) (m : Mem) : List It → ST
  | [] => leaveE none E [] x m
  | it :: k => itM T rec hint E k x m it

def settleE : Md → Md
  | .pan ((_, true) :: _) => .ret
  | m => m
def raiseE (chain : List (V × Bool)) : Md → Md
  | .pan older => .pan (chain ++ older)
  | _ => .pan chain
def retV (x : Cx) (m : Mem) (v : V) : List Fr → ST
  | c :: cs => (match x.df with
    | false => finE c v cs m
    | true => resume c cs m (settleE c.mode))
  | [] => (match x.df with | false => .fin (.ret v m) | true => stop 344 x.fn)
def retL (x : Cx) (m : Mem) : Option (List V) → ST
  | some l => retV x m (tupE l) x.cs
  | none => stop 342 x.fn
def resOf (T : Tab) (f : FuncId) : Option (List ResultVar) := (T.funcs.get f).map (·.results.toList)
def retM (T : Tab) (E : Env) (x : Cx) (m : Mem) : Option (List ResultVar) → ST
  | some rs => retL x m (resE T E m rs)
  | none => stop 343 x.fn
def panM (chain : List (V × Bool)) (m : Mem) : List Fr → ST
  | c :: cs => resume c cs m (raiseE chain c.mode)
  | [] => .fin (.pan chain m)
def left0 (T : Tab) (E : Env) (x : Cx) (m : Mem) : Md → ST
  | .run => stop 341 x.fn
  | .pan chain => (match (resOf T x.fn).isSome with | true => panM chain m x.cs | false => stop 346 x.fn)
  | .ret => retM T E x m (resOf T x.fn)
def markM (md : Md) (E : Env) (todo : List It) (x : Cx) (m : Mem) (ds : List Df) (id : Nat) : Option O → ST
  | some .deferred => (match md with | .run => stop 347 x.fn | _ => .lft md E todo ⟨x.fn, ds, x.df, x.rnd, x.cs⟩ (m.drop id))
  | _ => stop 345 x.fn
/-- a frame that runs no more -/
def leftM (T : Tab) (md : Md) (E : Env) (todo : List It) (x : Cx) (m : Mem) : List Df → ST
  | d :: ds => (match d with
    | .call f args => (match md with | .run => stop 347 x.fn | _ => enterE T f args true (⟨x.fn, E, todo, ds, md, x.df, x.rnd⟩ :: x.cs) m)
    | .mark id => markM md E todo x m ds id (look m id))
  | [] => left0 T E x m md

def loopM (T : Tab) (hint : Hint) : Nat → ST → MR
  | 0 => fun _ => .no 999 0
  | f + 1 => fun s => match s with
    | .go E todo x m => loopM T hint f (runM T (fun g args m => loopM T hint f (enterE T g args false [] m)) hint E x m todo)
    | .lft md E todo x m => loopM T hint f (leftM T md E todo x m x.dfs)
    | .fin r => r

def runE (T : Tab) (hint : Hint) (fuel : Nat) (f : FuncId) (args : List V) : MR := loopM T hint fuel (enterE T f args false [] ⟨.nil, 0⟩)

def why : MR → Nat
  | .no w f => Nat.add (Nat.mul w 10000) f
  | .ret v _ => (match v with | .bool true => 1 | _ => 2)
  | .pan _ _ => 3

end Ev
end Go.Proofs.YtaacgmcgmljjeaaGreat

/- The evaluator: what its values, blocks and slots stand for in a world. -/
namespace Go.Proofs.YtaacgmcgmljjeaaGreat
namespace Ev
open Go.RowKit

/-! ### tries -/
theorem Tr.get_nil {α : Type} (j : Nat) : (Tr.nil : Tr α).get j = none := rfl
theorem Tr.get_zero {α : Type} (l : Tr α) (v : Option α) (r : Tr α) : (Tr.node l v r).get 0 = v := rfl
theorem Tr.get_succ {α : Type} (l : Tr α) (v : Option α) (r : Tr α) (m : Nat) : (Tr.node l v r).get (m + 1) = if m % 2 = 0 then l.get (m / 2) else r.get (m / 2) := by
  show (match Nat.beq (Nat.mod m 2) 0 with | true => l.get (Nat.div m 2) | false => r.get (Nat.div m 2)) = _
  by_cases h : m % 2 = 0
  · rw [if_pos h]
    have : Nat.beq (Nat.mod m 2) 0 = true := by show Nat.beq (m % 2) 0 = true; rw [h]; rfl
    rw [this]; rfl
  · rw [if_neg h]
    have : Nat.beq (Nat.mod m 2) 0 = false := by
      cases hb : Nat.beq (Nat.mod m 2) 0 with
      | false => rfl
      | true => exact absurd (Nat.eq_of_beq_eq_true hb) h
    rw [this]; rfl

theorem Tr.one_zero {α : Type} (x : α) (f : Nat) : Tr.one x (f + 1) 0 = .node .nil (some x) .nil := rfl
theorem Tr.one_succ {α : Type} (x : α) (f m : Nat) : Tr.one x (f + 1) (m + 1) = if m % 2 = 0 then .node (Tr.one x f (m / 2)) none .nil else .node .nil none (Tr.one x f (m / 2)) := by
  show (match Nat.beq (Nat.mod m 2) 0 with | true => _ | false => _) = _
  by_cases h : m % 2 = 0
  · rw [if_pos h]
    have : Nat.beq (Nat.mod m 2) 0 = true := by show Nat.beq (m % 2) 0 = true; rw [h]; rfl
    rw [this]; rfl
  · rw [if_neg h]
    have : Nat.beq (Nat.mod m 2) 0 = false := by
      cases hb : Nat.beq (Nat.mod m 2) 0 with
      | false => rfl
      | true => exact absurd (Nat.eq_of_beq_eq_true hb) h
    rw [this]; rfl
theorem Tr.set_zero {α : Type} (x : α) (l : Tr α) (v : Option α) (r : Tr α) : (Tr.node l v r).set x 0 = .node l (some x) r := rfl
theorem Tr.set_succ {α : Type} (x : α) (l : Tr α) (v : Option α) (r : Tr α) (m : Nat) : (Tr.node l v r).set x (m + 1) = if m % 2 = 0 then .node (l.set x (m / 2)) v r else .node l v (r.set x (m / 2)) := by
  show (match Nat.beq (Nat.mod m 2) 0 with | true => _ | false => _) = _
  by_cases h : m % 2 = 0
  · rw [if_pos h]
    have : Nat.beq (Nat.mod m 2) 0 = true := by show Nat.beq (m % 2) 0 = true; rw [h]; rfl
    rw [this]; rfl
  · rw [if_neg h]
    have : Nat.beq (Nat.mod m 2) 0 = false := by
      cases hb : Nat.beq (Nat.mod m 2) 0 with
      | false => rfl
      | true => exact absurd (Nat.eq_of_beq_eq_true hb) h
    rw [this]; rfl

theorem Tr.get_one {α : Type} (x : α) : ∀ (f n j : Nat), n < f → (Tr.one x f n).get j = if j = n then some x else none
  | 0, n, j, h => by omega
  | f + 1, 0, j, _ => by
    rw [Tr.one_zero]
    cases j with
    | zero => rfl
    | succ j => rw [Tr.get_succ]; simp [Tr.get_nil]
  | f + 1, n + 1, j, h => by
    rw [Tr.one_succ]
    cases j with
    | zero => split <;> simp [Tr.get_zero]
    | succ j =>
      split
      · rename_i hn
        rw [Tr.get_succ]
        split
        · rename_i hj
          rw [Tr.get_one x f _ _ (by omega)]
          by_cases e : j = n
          · subst e; simp
          · rw [if_neg (by omega), if_neg (by omega)]
        · rw [if_neg (by omega)]; rfl
      · rename_i hn
        rw [Tr.get_succ]
        split
        · rw [if_neg (by omega)]; rfl
        · rename_i hj
          rw [Tr.get_one x f _ _ (by omega)]
          by_cases e : j = n
          · subst e; simp
          · rw [if_neg (by omega), if_neg (by omega)]

theorem Tr.get_set {α : Type} (x : α) : ∀ (t : Tr α) (n j : Nat), (t.set x n).get j = if j = n then some x else t.get j
  | .nil, n, j => by
    show (Tr.one x (n + 1) n).get j = _
    rw [Tr.get_one x _ _ _ (by omega)]
    rfl
  | .node l v r, 0, j => by
    rw [Tr.set_zero]
    cases j with
    | zero => rfl
    | succ j => rw [Tr.get_succ, Tr.get_succ]; simp
  | .node l v r, n + 1, j => by
    rw [Tr.set_succ]
    cases j with
    | zero => split <;> simp [Tr.get_zero]
    | succ j =>
      split
      · rw [Tr.get_succ, Tr.get_succ]
        split
        · rw [Tr.get_set x l]
          by_cases e : j = n
          · subst e; simp
          · rw [if_neg (by omega), if_neg (by omega)]
        · rw [if_neg (by omega)]
      · rw [Tr.get_succ, Tr.get_succ]
        split
        · rw [if_neg (by omega)]
        · rw [Tr.get_set x r]
          by_cases e : j = n
          · subst e; simp
          · rw [if_neg (by omega), if_neg (by omega)]

theorem look_put (m : Mem) (id : Nat) (o : O) (j : Nat) : look (m.put id o) j = if j = id then some o else look m j := by
  unfold look Mem.put
  rw [Tr.get_set]
  split <;> rfl
theorem look_drop (m : Mem) (id j : Nat) : look (m.drop id) j = if j = id then none else look m j := by
  unfold look Mem.drop
  rw [Tr.get_set]
  split <;> rfl
theorem look_add (m : Mem) (o : O) (j : Nat) : look (m.add o) j = if j = m.n then some o else look m j := by
  unfold look Mem.add
  rw [Tr.get_set]
  split <;> rfl

/-! ### what values stand for -/
abbrev Rho := Nat → Option (Nat × Nat)

inductive RV (ρ : Rho) : Value → V → Prop where
  | any (v : Value) : RV ρ v .any
  | bool (b : Bool) : RV ρ (.bool b) (.bool b)
  | nn (n : Nat) : RV ρ (.int .i64 (Int.ofNat n)) (.nn n)
  | int (k : IntKind) (n : Int) : RV ρ (.int k n) (.int k n)
  | str (l : List UInt8) : RV ρ (.string ⟨⟨l⟩⟩) (.str l)
  | nilp : RV ρ (.pointer none) .nilp
  | nils : RV ρ (.slice none 0 0) .nils
  | nilm : RV ρ (.map none) .nilm
  | nilf : RV ρ .nilFunc .nilf
  | nili : RV ρ .nilIface .nili
  | ptr (id off b c : Nat) (h : ρ id = some (b, c)) : RV ρ (.pointer (some ⟨b, off, none⟩)) (.ptr id off)
  | sl (id off n cap b c : Nat) (h : ρ id = some (b, c)) : RV ρ (.slice (some ⟨b, off, none⟩) n cap) (.sl id off n cap)
  | own (id n b c : Nat) (h : ρ id = some (b, c)) (hn : n ≤ c) : RV ρ (.slice (some ⟨b, 0, none⟩) n c) (.own id n)
  | map (id b c : Nat) (h : ρ id = some (b, c)) : RV ρ (.map (some b)) (.map id)
  | func (f : FuncId) (fs cs : Array Value) (xs ys : List V) (hf : fs.size = xs.length) (hc : cs.size = ys.length)
      (h1 : ∀ (i : Nat) v x, fs[i]? = some v → xs[i]? = some x → RV ρ v x) (h2 : ∀ (i : Nat) v x, cs[i]? = some v → ys[i]? = some x → RV ρ v x) : RV ρ (.func (.func f) fs cs) (.func f xs ys)
  | yield (l b c : Nat) (h : ρ l = some (b, c)) : RV ρ (.func (.yield b) #[] #[]) (.yield l)
  | len (a : Option Addr) (n c : Nat) : RV ρ (.slice a n c) (.len n)
  | iface (t : TypeId) (v : Value) (x : V) (h : RV ρ v x) : RV ρ (.iface t v) (.iface t x)
  | agg (cs : Array Value) (xs : List V) (hs : cs.size = xs.length) (ho : ∀ v, v ∈ cs → v.oneCell' = true) (h : ∀ (i : Nat) v x, cs[i]? = some v → xs[i]? = some x → RV ρ v x) : RV ρ (.agg cs) (.agg xs)
  | tup (cs : Array Value) (xs : List V) (hs : cs.size = xs.length) (h : ∀ (i : Nat) v x, cs[i]? = some v → xs[i]? = some x → RV ρ v x) : RV ρ (.tuple cs) (.tup xs)

def Ext (ρ ρ' : Rho) : Prop := ∀ id p, ρ id = some p → ρ' id = some p
theorem Ext.refl (ρ : Rho) : Ext ρ ρ := fun _ _ h => h
theorem Ext.trans {a b c : Rho} (h : Ext a b) (k : Ext b c) : Ext a c := fun id p e => k id p (h id p e)

theorem RV.ext {ρ ρ' : Rho} {v : Value} {x : V} (h : RV ρ v x) (he : Ext ρ ρ') : RV ρ' v x := by
  induction h with
  | any v => exact .any v
  | bool b => exact .bool b
  | nn n => exact .nn n
  | int k n => exact .int k n
  | str l => exact .str l
  | nilp => exact .nilp
  | nils => exact .nils
  | nilm => exact .nilm
  | nilf => exact .nilf
  | nili => exact .nili
  | ptr id off b c h => exact .ptr id off b c (he _ _ h)
  | sl id off n cap b c h => exact .sl id off n cap b c (he _ _ h)
  | own id n b c h hn => exact .own id n b c (he _ _ h) hn
  | map id b c h => exact .map id b c (he _ _ h)
  | func f fs cs xs ys hf hc _ _ i1 i2 => exact .func f fs cs xs ys hf hc i1 i2
  | yield l b c h => exact .yield l b c (he _ _ h)
  | len a n c => exact .len a n c
  | iface t v x _ ih => exact .iface t v x ih
  | agg cs xs hs ho _ ih => exact .agg cs xs hs ho ih
  | tup cs xs hs _ ih => exact .tup cs xs hs ih

/-- lists of values, one by one -/
def RL (ρ : Rho) (vs : List Value) (xs : List V) : Prop := vs.length = xs.length ∧ ∀ (i : Nat) v x, vs[i]? = some v → xs[i]? = some x → RV ρ v x
theorem RL.ext {ρ ρ' : Rho} {vs : List Value} {xs : List V} (h : RL ρ vs xs) (he : Ext ρ ρ') : RL ρ' vs xs := ⟨h.1, fun i v x h1 h2 => (h.2 i v x h1 h2).ext he⟩
theorem RL.nil (ρ : Rho) : RL ρ [] [] := ⟨rfl, fun i v x h => by simp at h⟩
theorem RL.cons {ρ : Rho} {v : Value} {x : V} {vs : List Value} {xs : List V} (h : RV ρ v x) (hr : RL ρ vs xs) : RL ρ (v :: vs) (x :: xs) :=
  ⟨by simp [hr.1], fun i u y h1 h2 => by
    cases i with
    | zero => simp at h1 h2; subst h1 h2; exact h
    | succ i => exact hr.2 i u y (by simpa using h1) (by simpa using h2)⟩
theorem RL.inv_cons {ρ : Rho} {vs : List Value} {x : V} {xs : List V} (h : RL ρ vs (x :: xs)) : ∃ v ws, vs = v :: ws ∧ RV ρ v x ∧ RL ρ ws xs := by
  cases vs with
  | nil => have := h.1; simp at this
  | cons v ws =>
    refine ⟨v, ws, rfl, h.2 0 v x (by simp) (by simp), by have := h.1; simpa using this, fun i u y h1 h2 => h.2 (i + 1) u y (by simpa using h1) (by simpa using h2)⟩
theorem RL.inv_nil {ρ : Rho} {vs : List Value} (h : RL ρ vs []) : vs = [] := List.eq_nil_of_length_eq_zero h.1
theorem RL.append {ρ : Rho} {vs ws : List Value} {xs ys : List V} (h : RL ρ vs xs) (k : RL ρ ws ys) : RL ρ (vs ++ ws) (xs ++ ys) :=
  ⟨by simp [h.1, k.1], fun i v x h1 h2 => by
    by_cases hi : i < vs.length
    · rw [List.getElem?_append_left hi] at h1
      rw [List.getElem?_append_left (by rw [← h.1]; exact hi)] at h2
      exact h.2 i v x h1 h2
    · rw [List.getElem?_append_right (by omega)] at h1
      rw [List.getElem?_append_right (by rw [← h.1]; omega), ← h.1] at h2
      exact k.2 _ v x h1 h2⟩
theorem RL.take {ρ : Rho} {vs : List Value} {xs : List V} (h : RL ρ vs xs) (n : Nat) : RL ρ (vs.take n) (xs.take n) :=
  ⟨by simp [h.1], fun i v x h1 h2 => by
    by_cases hi : i < n
    · rw [List.getElem?_take_of_lt hi] at h1 h2
      exact h.2 i v x h1 h2
    · rw [List.getElem?_take_eq_none (by omega)] at h1; cases h1⟩
theorem RL.drop {ρ : Rho} {vs : List Value} {xs : List V} (h : RL ρ vs xs) (n : Nat) : RL ρ (vs.drop n) (xs.drop n) :=
  ⟨by simp [h.1], fun i v x h1 h2 => by
    rw [List.getElem?_drop] at h1 h2
    exact h.2 _ v x h1 h2⟩
theorem RL.get {ρ : Rho} {vs : List Value} {xs : List V} (h : RL ρ vs xs) {i : Nat} {x : V} (hx : xs[i]? = some x) : ∃ v, vs[i]? = some v ∧ RV ρ v x := by
  have hi : i < vs.length := by rw [h.1]; exact (List.getElem?_eq_some_iff.1 hx).1
  exact ⟨vs[i], by simp [hi], h.2 i _ x (by simp [hi]) hx⟩
theorem RL.map {ρ : Rho} {α : Type} (f : α → Value) (g : α → V) (l : List α) (h : ∀ a, a ∈ l → RV ρ (f a) (g a)) : RL ρ (l.map f) (l.map g) :=
  ⟨by simp, fun i v x h1 h2 => by
    rw [List.getElem?_map] at h1 h2
    cases hl : l[i]? with
    | none => rw [hl] at h1; cases h1
    | some a =>
      rw [hl] at h1 h2
      cases h1; cases h2
      exact h a (List.mem_of_getElem? hl)⟩
theorem RV.agg' {ρ : Rho} {cs : Array Value} {xs : List V} (h : RL ρ cs.toList xs) (ho : ∀ v, v ∈ cs → v.oneCell' = true) : RV ρ (.agg cs) (.agg xs) :=
  .agg cs xs (by simpa using h.1) ho fun i v x h1 h2 => h.2 i v x (by simpa using h1) h2
theorem RV.tup' {ρ : Rho} {cs : Array Value} {xs : List V} (h : RL ρ cs.toList xs) : RV ρ (.tuple cs) (.tup xs) :=
  .tup cs xs (by simpa using h.1) fun i v x h1 h2 => h.2 i v x (by simpa using h1) h2
theorem RV.agg_inv {ρ : Rho} {v : Value} {xs : List V} (h : RV ρ v (.agg xs)) : ∃ cs, v = .agg cs ∧ RL ρ cs.toList xs ∧ ∀ v, v ∈ cs → v.oneCell' = true := by
  cases h with
  | agg cs _ hs ho h => exact ⟨cs, rfl, ⟨by simpa using hs, fun i v x h1 h2 => h i v x (by simpa using h1) h2⟩, ho⟩
theorem RV.tup_inv {ρ : Rho} {v : Value} {xs : List V} (h : RV ρ v (.tup xs)) : ∃ cs, v = .tuple cs ∧ RL ρ cs.toList xs := by
  cases h with
  | tup cs _ hs h => exact ⟨cs, rfl, ⟨by simpa using hs, fun i v x h1 h2 => h i v x (by simpa using h1) h2⟩⟩
theorem RV.func_inv {ρ : Rho} {v : Value} {f : FuncId} {xs ys : List V} (h : RV ρ v (.func f xs ys)) : ∃ fs cs, v = .func (.func f) fs cs ∧ RL ρ fs.toList xs ∧ RL ρ cs.toList ys := by
  cases h with
  | func _ fs cs _ _ hf hc h1 h2 => exact ⟨fs, cs, rfl, ⟨by simpa using hf, fun i v x a b => h1 i v x (by simpa using a) b⟩, ⟨by simpa using hc, fun i v x a b => h2 i v x (by simpa using a) b⟩⟩
theorem RV.func' {ρ : Rho} {f : FuncId} {fs cs : Array Value} {xs ys : List V} (h : RL ρ fs.toList xs) (k : RL ρ cs.toList ys) : RV ρ (.func (.func f) fs cs) (.func f xs ys) :=
  .func f fs cs xs ys (by simpa using h.1) (by simpa using k.1) (fun i v x a b => h.2 i v x (by simpa using a) b) fun i v x a b => k.2 i v x (by simpa using a) b

theorem RV.one {ρ : Rho} {v : Value} {x : V} (h : RV ρ v x) (hx : x.one = true) : v.oneCell' = true ∧ v.cells = #[v] := by
  cases h <;> first | exact ⟨rfl, rfl⟩ | (simp [V.one] at hx)

/-! ### what blocks stand for -/
def RE (ρ : Rho) (ts : Array Value) (E : Env) : Prop := ∀ t, RV ρ (ts.getD t undef) (get E t)

/-- known cells of a block -/
def RC (ρ : Rho) (w : World) (b : Nat) (tr : Tr V) : Prop := ∃ cs U fr, w.heap[b]? = some (.cells cs U fr) ∧ ∀ i x, tr.get i = some x → ∃ v, cs[i]? = some v ∧ v.oneCell' = true ∧ RV ρ v x

def RO (ρ : Rho) (w : World) (b c : Nat) : O → Prop
  | .ro tr => RC ρ w b tr
  | .cells T e n tr => ∃ cs, w.heap[b]? = some (.cells cs T (0, 0)) ∧ cs.size = c * e ∧ n ≤ cs.size ∧ (∀ i x, tr.get i = some x → i < n) ∧ ∀ i x, tr.get i = some x → ∃ v, cs[i]? = some v ∧ v.oneCell' = true ∧ RV ρ v x
  | .map es clk => ∃ es', w.heap[b]? = some (.map es' clk) ∧ es'.size = es.length ∧ ∀ (i : Nat) e p, es'[i]? = some e → es[i]? = some p → RV ρ e.key p.1 ∧ RV ρ e.val p.2.1 ∧ e.born = p.2.2
  | .loop st p f E ps a bd d => ∃ ts db c', w.heap[b]? = some (.loop { state := st, pending := p, fn := f, tmps := ts, params := ps.toArray, assign := a, body := bd, defers := db }) ∧ RE ρ ts E ∧ ρ d = some (db, c') ∧ okC ts.size a = true ∧ okC ts.size bd = true ∧ (∀ q, q ∈ ps → q < ts.size) ∧ ∀ j, p = some j → ∀ n, okC n j = true
  | .deferred => w.heap[b]? = some (.deferred (some []))

theorem RO.mono {ρ ρ' : Rho} {w w' : World} {b c : Nat} {o : O} (h : RO ρ w b c o) (he : Ext ρ ρ') (hw : w'.heap[b]? = w.heap[b]?) : RO ρ' w' b c o := by
  cases o with
  | ro tr =>
    obtain ⟨cs, U, fr, h1, h4⟩ := h
    exact ⟨cs, U, fr, hw.trans h1, fun i x hx => let ⟨v, a, b, c⟩ := h4 i x hx; ⟨v, a, b, c.ext he⟩⟩
  | cells T e n tr =>
    obtain ⟨cs, h1, h2, h3, h3', h4⟩ := h
    exact ⟨cs, hw.trans h1, h2, h3, h3', fun i x hx => let ⟨v, a, b, c⟩ := h4 i x hx; ⟨v, a, b, c.ext he⟩⟩
  | map es clk =>
    obtain ⟨es', h1, h2, h3⟩ := h
    exact ⟨es', hw.trans h1, h2, fun i e p a b => let ⟨x, y, z⟩ := h3 i e p a b; ⟨x.ext he, y.ext he, z⟩⟩
  | loop st p f E ps a bd d =>
    obtain ⟨ts, db, c', h1, h2, h3, h4⟩ := h
    exact ⟨ts, db, c', hw.trans h1, fun t => (h2 t).ext he, he _ _ h3, h4⟩
  | deferred => exact hw.trans h

theorem RO.rc {ρ : Rho} {w : World} {b c : Nat} {T : TypeId} {e n : Nat} {tr : Tr V} (h : RO ρ w b c (.cells T e n tr)) : RC ρ w b tr := let ⟨cs, h1, _, _, _, h4⟩ := h; ⟨cs, T, _, h1, h4⟩

theorem RO.lt {ρ : Rho} {w : World} {b c : Nat} {o : O} (h : RO ρ w b c o) : b < w.heap.size := by
  cases o with
  | ro tr => obtain ⟨cs, U, fr, h1, _⟩ := h; exact (Array.getElem?_eq_some_iff.1 h1).1
  | cells T e n tr => obtain ⟨cs, h1, _⟩ := h; exact (Array.getElem?_eq_some_iff.1 h1).1
  | map es clk => obtain ⟨cs, h1, _⟩ := h; exact (Array.getElem?_eq_some_iff.1 h1).1
  | loop st p f E ps a bd d => obtain ⟨_, _, _, h1, _⟩ := h; exact (Array.getElem?_eq_some_iff.1 h1).1
  | deferred => exact (Array.getElem?_eq_some_iff.1 h).1

/-- the blocks of m stand in w, by the names of ρ; the names from m.n up to L have not been given -/
structure Sat (L : Nat) (ρ : Rho) (m : Mem) (w : World) : Prop where
  fresh : ∀ id, m.n ≤ id → id < L → ρ id = none
  inj : ∀ i j b c c', look m i ≠ none → look m j ≠ none → ρ i = some (b, c) → ρ j = some (b, c') → i = j
  obj : ∀ id o, look m id = some o → ∃ b c, ρ id = some (b, c) ∧ RO ρ w b c o

/-- the block is named in m -/
def Named (ρ : Rho) (m : Mem) (b : Nat) : Prop := ∃ id c, look m id ≠ none ∧ ρ id = some (b, c)

/-- from w to w': only the named blocks, and new ones, have turned -/
structure Trans (ρ ρ' : Rho) (m m' : Mem) (w w' : World) : Prop where
  ext : Ext ρ ρ'
  dom : ∀ id, ρ' id ≠ none → ρ id ≠ none ∨ (m.n ≤ id ∧ id < m'.n)
  new : ∀ b, Named ρ' m' b → Named ρ m b ∨ w.heap.size ≤ b
  mono : m.n ≤ m'.n
  os : w'.os = w.os
  tape : w'.tape = w.tape
  output : w'.output = w.output
  size : w.heap.size ≤ w'.heap.size
  block : ∀ b, b < w.heap.size → ¬ Named ρ m b → w'.heap[b]? = w.heap[b]?

theorem Trans.refl (ρ : Rho) (m : Mem) (w : World) : Trans ρ ρ m m w w := ⟨Ext.refl ρ, fun _ h => .inl h, fun _ h => .inl h, Nat.le_refl _, rfl, rfl, rfl, Nat.le_refl _, fun _ _ _ => rfl⟩
theorem Trans.trans {ρ ρ' ρ'' : Rho} {m m' m'' : Mem} {w w' w'' : World} (h : Trans ρ ρ' m m' w w') (k : Trans ρ' ρ'' m' m'' w' w'') : Trans ρ ρ'' m m'' w w'' where
  ext := h.ext.trans k.ext
  dom id hid := by
    have m1 := h.mono
    have m2 := k.mono
    rcases k.dom id hid with h1 | h1
    · rcases h.dom id h1 with h2 | h2
      · exact .inl h2
      · exact .inr ⟨h2.1, by omega⟩
    · exact .inr ⟨by omega, h1.2⟩
  new b hb := by
    rcases k.new b hb with h1 | h1
    · exact h.new b h1
    · exact .inr (Nat.le_trans h.size h1)
  mono := Nat.le_trans h.mono k.mono
  os := k.os.trans h.os
  tape := k.tape.trans h.tape
  output := k.output.trans h.output
  size := Nat.le_trans h.size k.size
  block b hb hn := by
    refine (k.block b (Nat.lt_of_lt_of_le hb h.size) fun hn' => ?_).trans (h.block b hb hn)
    rcases h.new b hn' with h1 | h1
    · exact hn h1
    · omega

/-- a block that is named in m is turned -/
theorem Sat.put {L : Nat} {ρ : Rho} {m : Mem} {w w' : World} (h : Sat L ρ m w) {id b c : Nat} {o o' : O} (hl : look m id = some o) (hr : ρ id = some (b, c)) (hs : w'.heap.size = w.heap.size) (hb : ∀ b', b' ≠ b → w'.heap[b']? = w.heap[b']?)
    (hos : w'.os = w.os) (ht : w'.tape = w.tape) (hou : w'.output = w.output) (ho : RO ρ w' b c o') : Sat L ρ (m.put id o') w' ∧ Trans ρ ρ m (m.put id o') w w' := by
  have hlk : ∀ j, look (m.put id o') j ≠ none → look m j ≠ none := fun j hj => by
    rw [look_put] at hj
    split at hj
    · rename_i e; subst e; rw [hl]; simp
    · exact hj
  have hn : ∀ x, Named ρ (m.put id o') x → Named ρ m x := fun x ⟨j, cj, h1, h2⟩ => ⟨j, cj, hlk j h1, h2⟩
  refine ⟨⟨h.fresh, fun i j b c c' h1 h2 => h.inj i j b c c' (hlk i h1) (hlk j h2), fun j oj hj => ?_⟩, ⟨Ext.refl _, fun _ h => .inl h, fun x hx => .inl (hn x hx), Nat.le_refl _, hos, ht, hou, Nat.le_of_eq hs.symm, fun x hx hnx => hb x ?_⟩⟩
  · rw [look_put] at hj
    split at hj
    · rename_i e; subst e; cases hj; exact ⟨b, c, hr, ho⟩
    · rename_i e
      obtain ⟨bj, cj, h1, h2⟩ := h.obj j oj hj
      refine ⟨bj, cj, h1, h2.mono (Ext.refl _) (hb bj fun e' => e (h.inj j id bj cj c (by rw [hj]; simp) (by rw [hl]; simp) h1 (e' ▸ hr)))⟩
  · rintro rfl
    exact hnx ⟨id, c, by rw [hl]; simp, hr⟩

def upd (ρ : Rho) (id : Nat) (p : Nat × Nat) : Rho := fun i => if i = id then some p else ρ i
theorem upd_same (ρ : Rho) (id : Nat) (p : Nat × Nat) : upd ρ id p id = some p := if_pos rfl
theorem upd_other (ρ : Rho) {id i : Nat} (p : Nat × Nat) (h : i ≠ id) : upd ρ id p i = ρ i := if_neg h
theorem ext_upd {ρ : Rho} {id : Nat} (h : ρ id = none) (p : Nat × Nat) : Ext ρ (upd ρ id p) := fun i q hq => by
  rw [upd_other]
  · exact hq
  · rintro rfl; rw [h] at hq; cases hq

/-- a new block -/
theorem Sat.add {L : Nat} {ρ : Rho} {m : Mem} {w : World} (h : Sat L ρ m w) (hL : m.n < L) {ob : Obj} {o : O} (c : Nat) (ho : RO (upd ρ m.n (w.heap.size, c)) { w with heap := w.heap.push ob } w.heap.size c o) :
    Sat L (upd ρ m.n (w.heap.size, c)) (m.add o) { w with heap := w.heap.push ob } ∧ Trans ρ (upd ρ m.n (w.heap.size, c)) m (m.add o) w { w with heap := w.heap.push ob } := by
  have hf := h.fresh m.n (Nat.le_refl _) hL
  have he := ext_upd hf (w.heap.size, c)
  have hlt : ∀ i b c', look m i ≠ none → ρ i = some (b, c') → b < w.heap.size := fun i b c' h1 h2 => by
    cases e : look m i with
    | none => exact absurd e h1
    | some oi =>
      obtain ⟨b1, c1, h3, h4⟩ := h.obj i oi e
      rw [h2] at h3; cases h3
      exact h4.lt
  have hl0 : look m m.n = none := by
    cases e : look m m.n with
    | none => rfl
    | some oi =>
      obtain ⟨b1, c1, h3, _⟩ := h.obj _ oi e
      rw [hf] at h3; cases h3
  have hcl : ∀ i, look (m.add o) i ≠ none → i = m.n ∨ (i ≠ m.n ∧ look m i ≠ none) := fun i hi => by
    rw [look_add] at hi
    by_cases e : i = m.n
    · exact .inl e
    · rw [if_neg e] at hi; exact .inr ⟨e, hi⟩
  refine ⟨⟨fun id h1 h2 => ?_, fun i j b c1 c2 h1 h2 h3 h4 => ?_, fun j oj hj => ?_⟩, ⟨he, fun id hid => ?_, fun x hx => ?_, Nat.le_succ _, rfl, rfl, rfl, by simp, fun x hx _ => ?_⟩⟩
  · have : m.n + 1 ≤ id := h1
    rw [upd_other _ _ (by omega)]
    exact h.fresh id (by omega) h2
  · rcases hcl i h1 with rfl | ⟨e1, g1⟩ <;> rcases hcl j h2 with rfl | ⟨e2, g2⟩
    · rfl
    · rw [upd_same] at h3; cases h3
      rw [upd_other _ _ e2] at h4
      have := hlt j _ _ g2 h4; omega
    · rw [upd_same] at h4; cases h4
      rw [upd_other _ _ e1] at h3
      have := hlt i _ _ g1 h3; omega
    · rw [upd_other _ _ e1] at h3
      rw [upd_other _ _ e2] at h4
      exact h.inj i j b c1 c2 g1 g2 h3 h4
  · rw [look_add] at hj
    split at hj
    · rename_i e; subst e; cases hj
      exact ⟨_, c, upd_same _ _ _, ho⟩
    · obtain ⟨b1, c1, h3, h4⟩ := h.obj j oj hj
      refine ⟨b1, c1, he _ _ h3, h4.mono he ?_⟩
      have := h4.lt
      simp [Array.getElem?_push, Nat.ne_of_lt this]
  · by_cases e : id = m.n
    · exact .inr ⟨by omega, by show id < m.n + 1; omega⟩
    · rw [upd_other _ _ e] at hid; exact .inl hid
  · obtain ⟨i, ci, h1, h2⟩ := hx
    rcases hcl i h1 with rfl | ⟨e1, g1⟩
    · rw [upd_same] at h2; cases h2; exact .inr (Nat.le_refl _)
    · rw [upd_other _ _ e1] at h2; exact .inl ⟨i, ci, g1, h2⟩
  · simp [Array.getElem?_push, Nat.ne_of_lt hx]

end Ev
end Go.Proofs.YtaacgmcgmljjeaaGreat

/- The evaluator: operations that only read. -/
namespace Go.Proofs.YtaacgmcgmljjeaaGreat
namespace Ev
open Go.RowKit

/-- the tables are the program's -/
structure TabOk (P : Program) (T : Tab) : Prop where
  types : ∀ t i, T.types.get t = some i → P.info? t = some i
  funcs : ∀ f fn, T.funcs.get f = some fn → P.funcs[f]? = some fn
  mixed : P.follows .mixedOrders = true
  eqs : ∀ t, t ∈ T.eqs → P.stoodInHeld t = false ∧ P.eqGuardType P.depth t = false
  good : ∀ f fn c, T.funcs.get f = some fn → fn.body = some c → okC fn.ntmps c = true ∧ (fn.name == "runtime.NumGoroutine") = false

section
variable {P : Program} {T : Tab}

theorem infoT_ok (hT : TabOk P T) {t : TypeId} {i : TypeInfo} (h : infoT T t = some i) : P.info? t = some i := hT.types t i h
theorem undT_ok (hT : TabOk P T) {t : TypeId} {d : TypeDesc} (h : undT T t = some d) : P.underlying t = some d := by
  unfold undT at h
  cases hi : infoT T t with
  | none => rw [hi] at h; cases h
  | some i =>
    rw [hi] at h
    have h1 := infoT_ok hT hi
    have h2 : undOf T i = some d := h
    unfold Program.underlying
    rw [h1]
    cases i with
    | mk desc str size bytes hp al fa zero cmp ms =>
      unfold undOf at h2
      cases desc <;> simp only at h2 ⊢ <;> first | exact h2 | skip
      rename_i nm u
      cases hj : infoT T u with
      | none => rw [hj] at h2; cases h2
      | some j =>
        rw [hj] at h2
        rw [infoT_ok hT hj]
        exact h2
theorem sizeT_ok (hT : TabOk P T) {t : TypeId} {z : Nat} (h : sizeT T t = some z) : ∃ i, P.info? t = some i ∧ i.size = z := by
  unfold sizeT at h
  cases hi : infoT T t with
  | none => rw [hi] at h; cases h
  | some i =>
    rw [hi] at h
    exact ⟨i, infoT_ok hT hi, by simpa using h⟩
theorem isAgg_eq (d : TypeDesc) : isAgg d = aggB d := by cases d <;> rfl
theorem layT_one (hT : TabOk P T) {t : TypeId} (h : layT T t = .one) : ∃ d i, P.underlying t = some d ∧ P.info? t = some i ∧ aggB d = false := by
  unfold layT at h
  split at h
  · rename_i d z h1 h2
    obtain ⟨i, hi, _⟩ := sizeT_ok hT h2
    split at h
    · cases h
    · rename_i ha
      exact ⟨d, i, undT_ok hT h1, hi, by rw [← isAgg_eq]; exact ha⟩
  · cases h
theorem layT_agg (hT : TabOk P T) {t : TypeId} {z : Nat} (h : layT T t = .agg z) : ∃ d i, P.underlying t = some d ∧ P.info? t = some i ∧ aggB d = true ∧ i.size = z := by
  unfold layT at h
  split at h
  · rename_i d z' h1 h2
    obtain ⟨i, hi, hz⟩ := sizeT_ok hT h2
    split at h
    · rename_i ha
      cases h
      exact ⟨d, i, undT_ok hT h1, hi, by rw [← isAgg_eq]; exact ha, hz⟩
    · cases h
  · cases h

/-- what is claimed of an operation -/
def OpS (P : Program) (o : Op) (E : Env) (m : Mem) (x : V) (m' : Mem) : Prop :=
  ∀ (L : Nat) (ρ : Rho) (w : World) (ev : Operand → Value), (∀ y, y ∈ o.operands.toList → RV ρ (ev y) (opX E y)) → Sat L ρ m w → m'.n ≤ L →
    ∃ nx v w' ρ', (∀ op : Oper, op.op = o → (execOp ev op).run P w = .ok nx w') ∧ (nx = .value v ∨ (nx = .skip ∧ v = undef)) ∧ RV ρ' v x ∧ Sat L ρ' m' w' ∧ Trans ρ ρ' m m' w w'

theorem OpS.read {o : Op} {E : Env} {m : Mem} {x : V} (h : ∀ (L : Nat) (ρ : Rho) (w : World) (ev : Operand → Value), (∀ y, y ∈ o.operands.toList → RV ρ (ev y) (opX E y)) → Sat L ρ m w →
    ∃ v, (∀ op : Oper, op.op = o → (execOp ev op).run P w = .ok (.value v) w) ∧ RV ρ v x) : OpS P o E m x m := fun L ρ w ev ho hs _ =>
  let ⟨v, h1, h2⟩ := h L ρ w ev ho hs
  ⟨.value v, v, w, ρ, h1, .inl rfl, h2, hs, Trans.refl ρ m w⟩

/-! ### inversions -/
section
variable {ρ : Rho} {v : Value}
theorem RV.bool_inv {b : Bool} (h : RV ρ v (.bool b)) : v = .bool b := by cases h; rfl
theorem RV.str_inv {l : List UInt8} (h : RV ρ v (.str l)) : v = .string ⟨⟨l⟩⟩ := by cases h; rfl
theorem RV.toI {x : V} {p : IntKind × Int} (h : RV ρ v x) (hx : toI x = some p) : v = .int p.1 p.2 := by
  cases h <;> simp only [Ev.toI] at hx <;> cases hx <;> rfl
theorem RV.toN {x : V} {n : Nat} (h : RV ρ v x) (hx : toN x = some n) : ∃ k, v = .int k (n : Int) := by
  cases h <;> simp only [Ev.toN] at hx <;> try cases hx
  · exact ⟨.i64, rfl⟩
  · rename_i k i
    cases i with
    | ofNat a => simp only [natI] at hx; cases hx; exact ⟨k, rfl⟩
    | negSucc a => cases hx
end

/-! ### numbers -/
theorem fits_max {k : IntKind} {m : Nat} (h : m ≤ maxN k) : k.wrap (m : Int) = m := by
  cases k <;> simp only [maxN] at h <;> simp only [IntKind.wrap, IntKind.bits, IntKind.signed] <;> simp <;> (try split) <;> omega
theorem ofP_rel (ρ : Rho) (k : IntKind) (m : Nat) : RV ρ (.int k (m : Int)) (ofP k m) := by
  unfold ofP
  cases k <;> first | exact .int _ _ | exact .nn _
theorem ofR_rel (ρ : Rho) (k : IntKind) (n : Int) : RV ρ (.int k n) (ofR k n) := by
  cases n with
  | ofNat m => exact ofP_rel ρ k m
  | negSucc m => exact .int _ _
theorem ofN_rel (ρ : Rho) (k : IntKind) (m : Nat) : RV ρ (.int k (k.wrap (m : Int))) (ofN k m) := by
  unfold ofN
  cases h : Nat.ble m (maxN k) with
  | true =>
    rw [fits_max (Nat.le_of_ble_eq_true h)]
    exact ofP_rel ρ k m
  | false => exact ofR_rel ρ k _
theorem ofI_rel (ρ : Rho) (k : IntKind) (n : Int) : RV ρ (.int k (k.wrap n)) (ofI k n) := by
  cases n with
  | ofNat m => exact ofN_rel ρ k m
  | negSucc m => exact ofR_rel ρ k _

theorem kEq_eq {a b : IntKind} (h : kEq a b = true) : a = b := by
  cases a <;> cases b <;> first | rfl | (exact absurd h (by decide))

theorem constL_rel (ρ : Rho) (v : Value) : RV ρ v (constL v) := by
  unfold constL
  split
  · exact .bool _
  · exact ofR_rel ρ _ _
  · rename_i s; exact .str s.data.toList
  · exact .nils
  · exact .nilf
  · exact .nili
  · exact .nilm
  · exact .nilp
  · exact .any _

theorem constV_rel (ρ : Rho) (v : Value) : RV ρ v (constV v) := by
  unfold constV
  split
  · rename_i cs
    unfold aggV
    split
    · rename_i h
      rw [List.all_eq_true] at h
      have hl : RL ρ cs.toList (cs.toList.map constL) := ⟨by simp, fun i v x h1 h2 => by
        rw [List.getElem?_map, h1] at h2
        cases h2
        exact constL_rel ρ v⟩
      refine .agg' hl fun v hv => ?_
      have := h (constL v) (List.mem_map.2 ⟨v, by simpa using hv, rfl⟩)
      exact ((constL_rel ρ v).one this).1
    · exact .any _
  · rename_i cs
    split
    · rename_i h
      obtain ⟨l⟩ := cs
      simp only at h
      subst h
      exact .tup' (RL.nil ρ)
    · exact .any _
  · exact constL_rel ρ v

theorem RV.cells {ρ : Rho} {v : Value} {x : V} (h : RV ρ v x) (hx : x.okc = true) : RL ρ v.cells.toList x.cells ∧ ∀ u, u ∈ v.cells → u.oneCell' = true := by
  cases x with
  | agg xs => obtain ⟨cs, rfl, h1, h2⟩ := h.agg_inv; exact ⟨h1, h2⟩
  | any => cases hx
  | tup xs => cases hx
  | _ =>
    obtain ⟨h1, h2⟩ := h.one rfl
    rw [h2]
    exact ⟨RL.cons h (RL.nil ρ), fun u hu => by
      have : u = v := by simpa using hu
      rw [this]; exact h1⟩

/-! ### operations that only read -/
theorem op_move {E : Env} {m : Mem} (y : Operand) : OpS P (.move y) E m (opX E y) m := .read fun L ρ w ev h _ =>
  ⟨ev y, fun op ho => by simp [execOp, ho], h y (by simp [Op.operands])⟩
theorem op_assign {E : Env} {m : Mem} (y : Operand) : OpS P (.assign y) E m (opX E y) m := .read fun L ρ w ev h _ =>
  ⟨ev y, fun op ho => by simp [execOp, ho], h y (by simp [Op.operands])⟩
theorem op_pick {E : Env} {m m' : Mem} {x : V} (c a b : Operand) (h : pickB E m a b (opX E c) = .ok x m') : OpS P (.pick c a b) E m x m' := by
  unfold pickB at h
  split at h
  · rename_i t hc
    split at h <;> cases h
    · refine .read fun L ρ w ev ho _ => ⟨ev a, fun op e => ?_, ho a (by simp [Op.operands])⟩
      have := ho c (by simp [Op.operands]); rw [hc] at this
      simp [execOp, e, this.bool_inv, asBool]
    · refine .read fun L ρ w ev ho _ => ⟨ev b, fun op e => ?_, ho b (by simp [Op.operands])⟩
      have := ho c (by simp [Op.operands]); rw [hc] at this
      simp [execOp, e, this.bool_inv, asBool]
  · cases h

/-- an operation of one operand that only reads -/
theorem op1 {E : Env} {m : Mem} {o : Op} {x : V} (y : Operand) (hy : y ∈ o.operands.toList) (h : ∀ ρ w v, RV ρ v (opX E y) → ∃ u, (∀ (op : Oper) ev, op.op = o → ev y = v → (execOp ev op).run P w = .ok (.value u) w) ∧ RV ρ u x) : OpS P o E m x m :=
  .read fun L ρ w ev ho _ => let ⟨u, h1, h2⟩ := h ρ w (ev y) (ho y hy); ⟨u, fun op e => h1 op ev e rfl, h2⟩

theorem op_nil {E : Env} {m m' : Mem} {x : V} (y : Operand) (h : nilE m (opX E y) = .ok x m') : OpS P (.nilCheck y) E m x m' := by
  unfold nilE at h
  split at h <;> cases h <;> rename_i hy <;> refine op1 y (by simp [Op.operands]) fun ρ w v hv => ?_ <;> rw [hy] at hv
  · cases hv
    rename_i b c hr
    exact ⟨_, fun op ev e he => by simp [execOp, e, he], .ptr _ _ b c hr⟩
  · obtain ⟨fs, cs, rfl, h1, h2⟩ := hv.func_inv
    exact ⟨_, fun op ev e he => by simp [execOp, e, he], .func' h1 h2⟩
  · cases hv
    rename_i u hu
    exact ⟨_, fun op ev e he => by simp [execOp, e, he], .iface _ _ _ hu⟩

theorem op_not {E : Env} {m m' : Mem} {x : V} (t : TypeId) (y : Operand) (h : notE m (opX E y) = .ok x m') : OpS P (.unOp .not t y) E m x m' := by
  unfold notE at h
  split at h <;> cases h
  rename_i b hy
  refine op1 y (by simp [Op.operands]) fun ρ w v hv => ?_
  rw [hy] at hv
  exact ⟨.bool !b, fun op ev e he => by simp [execOp, e, he, hv.bool_inv, Op.unary], .bool _⟩
theorem op_neg {E : Env} {m m' : Mem} {x : V} (t : TypeId) (y : Operand) (h : negE m (opX E y) = .ok x m') : OpS P (.unOp .neg t y) E m x m' := by
  unfold negE okO at h
  cases hy : toI (opX E y) with
  | none => rw [hy] at h; cases h
  | some p =>
    rw [hy] at h
    simp only [Option.map_some] at h
    cases h
    refine op1 y (by simp [Op.operands]) fun ρ w v hv => ?_
    have e := hv.toI hy
    exact ⟨.int p.1 (p.1.wrap (-p.2)), fun op ev e1 he => by simp [execOp, e1, he, e, Op.unary, Op.intArith], ofI_rel ρ _ _⟩
theorem op_extract {E : Env} {m m' : Mem} {x : V} (y : Operand) (i : Nat) (h : extE i m (opX E y) = .ok x m') : OpS P (.extract y i) E m x m' := by
  unfold extE okO at h
  split at h
  · rename_i vs hy
    split at h
    · rename_i z hz
      cases h
      refine op1 y (by simp [Op.operands]) fun ρ w v hv => ?_
      rw [hy] at hv
      obtain ⟨cs, rfl, hl⟩ := hv.tup_inv
      obtain ⟨u, h1, h2⟩ := hl.get hz
      have h1' : cs[i]? = some u := by simpa using h1
      exact ⟨u, fun op ev e he => by simp [execOp, e, he, Instr.extract, h1'], h2⟩
    · cases h
  · cases h
theorem op_face {E : Env} {m m' : Mem} {x : V} (hT : TabOk P T) (t : TypeId) (y : Operand) (h : faceE T t m (opX E y) = .ok x m') : OpS P (.makeInterface t y) E m x m' := by
  unfold faceE at h
  split at h
  · cases h
  · rename_i d hn hd
    cases h
    refine op1 y (by simp [Op.operands]) fun ρ w v hv => ⟨.iface t v, fun op ev e he => ?_, .iface _ _ _ hv⟩
    have hu := undT_ok hT hd
    simp only [execOp, e, he, Instr.makeInterface]
    rw [Sem.run_bind, Sem.run_bind, run_underlying hu]
    cases d <;> first | rfl | (rename_i ms; exact absurd rfl (hn ms))
  · cases h

end
end Ev
end Go.Proofs.YtaacgmcgmljjeaaGreat
