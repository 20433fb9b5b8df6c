/-
  Joined texts: The buffer of the tag layer: texts. · The calculus of states: two names changed for one another. · The buffer of the tag layer: a list of numbers. · The buffer of the tag layer, as its callers see it.
-/
import Derived.Test.YtaacgmcgmljjeaaGreatTP3
set_option linter.unusedSimpArgs false
set_option linter.unusedVariables false

/- The buffer of the tag layer: texts. -/
namespace Go.Proofs.YtaacgmcgmljjeaaGreat
open Go.RowKit

def octs (s : ByteArray) : List Int := s.data.toList.map fun b => (b.toNat : Int)
theorem shrI (v : Int) (k : Nat) (m : Int) (h1 : k ≤ 63) (h2 : (2 : Int) ^ k = m) : Op.shift .shr .i64 v .i64 (k : Int) = pure (.int .i64 (v / m)) := by
  unfold Op.shift
  have hb : IntKind.i64.bits = 64 := rfl
  simp only [show ¬ ((k : Int) < 0) by omega, if_false, hb]
  rw [show min (k : Int).toNat 64 = k by omega, h2, Int.fdiv_eq_ediv_of_nonneg v (by rw [← h2]; exact Int.le_of_lt (Int.pow_pos (by decide)))]
theorem bytesD_u8 (s : ByteArray) : bytesD s = u8D (octs s) := by simp [bytesD, u8D, octs]

set_option maxRecDepth 100000 in
set_option maxHeartbeats 2000000 in
theorem text0 (σ : Nat → Nat) {H : Heap} (s : ByteArray) (hs0 : 0 < s.size) (hs : s.size ≤ 1000000) (hH : subR σ [(1, some ⟨102, 1, [.d (.sl 0 0 [])]⟩)] H) (hinj : ((ks [(1, some ⟨102, 1, [.d (.sl 0 0 [])]⟩)] ++ newL [(1, some ⟨102, 1, [.d (.sl 0 0 [])]⟩)] [(1, some ⟨102, 1, [.own 2 s.size 1]⟩), (2, some ⟨5, 1, (u8D (octs s)).map X.d⟩)]).map σ).Nodup) : CT Tryz.prog 79 ([.ptr 1 0, .d (.str s)].map (X.ren σ)) H ((ks [(1, some ⟨102, 1, [.d (.sl 0 0 [])]⟩)]).map σ) ((newL [(1, some ⟨102, 1, [.d (.sl 0 0 [])]⟩)] [(1, some ⟨102, 1, [.own 2 s.size 1]⟩), (2, some ⟨5, 1, (u8D (octs s)).map X.d⟩)]).map σ) (updOf σ [(1, some ⟨102, 1, [.d (.sl 0 0 [])]⟩)] [(1, some ⟨102, 1, [.own 2 s.size 1]⟩), (2, some ⟨5, 1, (u8D (octs s)).map X.d⟩)]) (X.ren σ (.tup [])) := by
  refine CT_of (fn := Tryz.f79) (rl := .tup []) σ [(1, some ⟨102, 1, [.d (.sl 0 0 [])]⟩)] [(1, some ⟨102, 1, [.own 2 s.size 1]⟩), (2, some ⟨5, 1, (u8D (octs s)).map X.d⟩)] Tryz.func79 rfl (by simp [Tryz.ntmps79]) hH hinj (by kernel_rfl) (by simp [Heap.ids, X.idsL, X.ids, idsL_d, ks]) (fun j o h1 h2 => by simp [ks] at h1; rcases h1 with rfl | rfl <;> simp [look] at h2 <;> subst h2 <;> simp) fun G hG => ?_
  rw [Tryz.ntmps79]
  change AW _ _ _ _ ⟨[(0, .ptr 1 0), (1, .d (.str s))], [(1, some ⟨102, 1, [.d (.sl 0 0 [])]⟩)], [1]⟩ _
  refine aw_region_seq [⟨.ptr 1 0, [], [], []⟩, ⟨.ptr 1 0, [], [], []⟩, ⟨.ptr 1 0, [], [], []⟩, ⟨.ptr 1 0, [], [], []⟩, ⟨.d (.sl 0 0 []), [], [], [1]⟩, ⟨.d (.str s), [], [], []⟩, ⟨.own 2 s.size 1, [(2, some ⟨5, 1, (u8D (octs s)).map X.d⟩)], [2], []⟩, ⟨.ptr 1 0, [], [], []⟩, ⟨.ptr 1 0, [], [], []⟩, ⟨.tup [], [(1, some ⟨102, 1, [.own 2 s.size 1]⟩)], [], [1]⟩] (by kernel_rfl) (by kernel_rfl) (fun id h => hG id (by simp [ks] at h ⊢ <;> omega)) ?_ ?_
  · exact okY rfl (LT_move rfl rfl) <| okY rfl (LT_move rfl rfl) <| okY rfl (LT_nilCheck rfl rfl) <| okY rfl (LT_fieldAddr rfl rfl Tryz.underlying100 rfl inf23 (by decide) _ rfl) <| okY rfl (LT_load 1 rfl rfl rfl (List.Mem.head _) Tryz.underlying23 inf23 (by simp) (.inr ⟨rfl, rfl, rfl⟩)) <| okY rfl (LT_move rfl rfl) <| okY rfl (LT_appendS0 2 rfl Tryz.underlying23 Tryz.underlying9 rfl inf5 rfl rfl rfl rfl rfl (List.Mem.head _) hs0 (by omega) (by show _ * 1 ≤ _; omega) ((u8D (octs s)).map X.d) (by rw [bytesD_u8])) <| okY rfl (LT_nilCheck rfl rfl) <| okY rfl (LT_fieldAddr rfl rfl Tryz.underlying100 rfl inf23 (by decide) _ rfl) <| okY rfl (LT_store (ob := ⟨102, 1, [.d (.sl 0 0 [])]⟩) (x := .own 2 s.size 1) rfl rfl rfl (List.Mem.head _) inf23 rfl rfl rfl (by simp [X.cells]) _ rfl) <| okE
  refine ⟨?_, (sH rfl (sH rfl sH0))⟩
  refine finN (xs := []) (l := []) (.inr rfl) Tryz.results79 (rL0) (by simp) ?_
  exact rfl

set_option maxRecDepth 100000 in
set_option maxHeartbeats 2000000 in
theorem text1 (σ : Nat → Nat) {H : Heap} (s : ByteArray) (hs0 : 0 < s.size) (hs : s.size ≤ 1000000) (n : Nat) (ns : List Int) (hn : ns.length = n) (hbig : n ≤ 1000000) (hH : subR σ [(1, some ⟨102, 1, [.own 2 n 1]⟩), (2, some ⟨5, 1, (u8D ns).map X.d⟩)] H) (hinj : ((ks [(1, some ⟨102, 1, [.own 2 n 1]⟩), (2, some ⟨5, 1, (u8D ns).map X.d⟩)] ++ newL [(1, some ⟨102, 1, [.own 2 n 1]⟩), (2, some ⟨5, 1, (u8D ns).map X.d⟩)] [(1, some ⟨102, 1, [.own 3 (n + s.size) 1]⟩), (3, some ⟨5, 1, (u8D (ns ++ octs s)).map X.d⟩)]).map σ).Nodup) : CT Tryz.prog 79 ([.ptr 1 0, .d (.str s)].map (X.ren σ)) H ((ks [(1, some ⟨102, 1, [.own 2 n 1]⟩), (2, some ⟨5, 1, (u8D ns).map X.d⟩)]).map σ) ((newL [(1, some ⟨102, 1, [.own 2 n 1]⟩), (2, some ⟨5, 1, (u8D ns).map X.d⟩)] [(1, some ⟨102, 1, [.own 3 (n + s.size) 1]⟩), (3, some ⟨5, 1, (u8D (ns ++ octs s)).map X.d⟩)]).map σ) (updOf σ [(1, some ⟨102, 1, [.own 2 n 1]⟩), (2, some ⟨5, 1, (u8D ns).map X.d⟩)] [(1, some ⟨102, 1, [.own 3 (n + s.size) 1]⟩), (3, some ⟨5, 1, (u8D (ns ++ octs s)).map X.d⟩)]) (X.ren σ (.tup [])) := by
  refine CT_of (fn := Tryz.f79) (rl := .tup []) σ [(1, some ⟨102, 1, [.own 2 n 1]⟩), (2, some ⟨5, 1, (u8D ns).map X.d⟩)] [(1, some ⟨102, 1, [.own 3 (n + s.size) 1]⟩), (3, some ⟨5, 1, (u8D (ns ++ octs s)).map X.d⟩)] Tryz.func79 rfl (by simp [Tryz.ntmps79]) hH hinj (by simp [Heap.ids, X.idsL, X.ids, idsL_d, ks]) (by simp [Heap.ids, X.idsL, X.ids, idsL_d, ks]) (fun j o h1 h2 => by simp [ks] at h1; rcases h1 with rfl | rfl <;> simp [look] at h2 <;> subst h2 <;> simp) fun G hG => ?_
  rw [Tryz.ntmps79]
  change AW _ _ _ _ ⟨[(0, .ptr 1 0), (1, .d (.str s))], [(1, some ⟨102, 1, [.own 2 n 1]⟩), (2, some ⟨5, 1, (u8D ns).map X.d⟩)], [1, 2]⟩ _
  refine aw_region_seq [⟨.ptr 1 0, [], [], []⟩, ⟨.ptr 1 0, [], [], []⟩, ⟨.ptr 1 0, [], [], []⟩, ⟨.ptr 1 0, [], [], []⟩, ⟨.own 2 n 1, [], [], [1]⟩, ⟨.d (.str s), [], [], []⟩, ⟨.own 3 (n + s.size) 1, [(3, some ⟨5, 1, (u8D (ns ++ octs s)).map X.d⟩), (2, none)], [3], [2]⟩, ⟨.ptr 1 0, [], [], []⟩, ⟨.ptr 1 0, [], [], []⟩, ⟨.tup [], [(1, some ⟨102, 1, [.own 3 (n + s.size) 1]⟩)], [], [1]⟩] (by kernel_rfl) (by kernel_rfl) (fun id h => hG id (by simp [ks] at h ⊢ <;> omega)) ?_ ?_
  · exact okY rfl (LT_move rfl rfl) <| okY rfl (LT_move rfl rfl) <| okY rfl (LT_nilCheck rfl rfl) <| okY rfl (LT_fieldAddr rfl rfl Tryz.underlying100 rfl inf23 (by decide) _ rfl) <| okY rfl (LT_load 1 rfl rfl rfl (List.Mem.head _) Tryz.underlying23 inf23 (by simp) (.inr ⟨rfl, rfl, rfl⟩)) <| okY rfl (LT_move rfl rfl) <| okY rfl (LT_appendS 3 rfl Tryz.underlying23 Tryz.underlying9 rfl inf5 rfl rfl rfl (by decide) rfl rfl rfl (List.Mem.head _) (List.Mem.head _) rfl rfl (by show _ = n * 1; simp [u8D]; omega) hs0 (by omega) (by show (_ + _) * 1 ≤ _; omega) ((u8D (ns ++ octs s)).map X.d) (by rw [bytesD_u8]; simp [u8D]) (n + s.size) rfl) <| okY rfl (LT_nilCheck rfl rfl) <| okY rfl (LT_fieldAddr rfl rfl Tryz.underlying100 rfl inf23 (by decide) _ rfl) <| okY rfl (LT_store (ob := ⟨102, 1, [.own 2 n 1]⟩) (x := .own 3 (n + s.size) 1) rfl rfl rfl (List.Mem.head _) inf23 rfl rfl rfl (by simp [X.cells]) _ rfl) <| okE
  refine ⟨?_, (sH rfl (sH rfl sH0))⟩
  refine finN (xs := []) (l := []) (.inr rfl) Tryz.results79 (rL0) (by simp) ?_
  exact rfl

set_option maxRecDepth 100000 in
set_option maxHeartbeats 2000000 in
theorem put1 (σ : Nat → Nat) {H : Heap} (v : Int) (n : Nat) (ns : List Int) (hn : ns.length = n) (hbig : n ≤ 1000000) (hH : subR σ [(1, some ⟨102, 1, [.own 2 n 1]⟩), (2, some ⟨5, 1, (u8D ns).map X.d⟩)] H) (hinj : ((ks [(1, some ⟨102, 1, [.own 2 n 1]⟩), (2, some ⟨5, 1, (u8D ns).map X.d⟩)] ++ newL [(1, some ⟨102, 1, [.own 2 n 1]⟩), (2, some ⟨5, 1, (u8D ns).map X.d⟩)] [(1, some ⟨102, 1, [.own 3 (n + 1) 1]⟩), (3, some ⟨5, 1, (u8D (ns ++ [(v / 1) % 256])).map X.d⟩)]).map σ).Nodup) : CT Tryz.prog 116 ([.ptr 1 0, .d (.int .i64 1), .d (.sl 1 1 ([v].map (.int .i64)))].map (X.ren σ)) H ((ks [(1, some ⟨102, 1, [.own 2 n 1]⟩), (2, some ⟨5, 1, (u8D ns).map X.d⟩)]).map σ) ((newL [(1, some ⟨102, 1, [.own 2 n 1]⟩), (2, some ⟨5, 1, (u8D ns).map X.d⟩)] [(1, some ⟨102, 1, [.own 3 (n + 1) 1]⟩), (3, some ⟨5, 1, (u8D (ns ++ [(v / 1) % 256])).map X.d⟩)]).map σ) (updOf σ [(1, some ⟨102, 1, [.own 2 n 1]⟩), (2, some ⟨5, 1, (u8D ns).map X.d⟩)] [(1, some ⟨102, 1, [.own 3 (n + 1) 1]⟩), (3, some ⟨5, 1, (u8D (ns ++ [(v / 1) % 256])).map X.d⟩)]) (X.ren σ (.tup [])) := by
  refine CT_of (fn := Tryz.f116) (rl := .tup []) σ [(1, some ⟨102, 1, [.own 2 n 1]⟩), (2, some ⟨5, 1, (u8D ns).map X.d⟩)] [(1, some ⟨102, 1, [.own 3 (n + 1) 1]⟩), (3, some ⟨5, 1, (u8D (ns ++ [(v / 1) % 256])).map X.d⟩)] Tryz.func116 rfl (by simp [Tryz.ntmps116]) hH hinj (by simp [Heap.ids, X.idsL, X.ids, idsL_d, ks]) (by simp [Heap.ids, X.idsL, X.ids, idsL_d, ks]) (fun j o h1 h2 => by simp [ks] at h1; rcases h1 with rfl | rfl <;> simp [look] at h2 <;> subst h2 <;> simp) fun G hG => ?_
  rw [Tryz.ntmps116]
  change AW _ _ _ _ ⟨[(0, .ptr 1 0), (1, .d (.int .i64 1)), (2, .d (.sl 1 1 ([v].map (.int .i64))))], [(1, some ⟨102, 1, [.own 2 n 1]⟩), (2, some ⟨5, 1, (u8D ns).map X.d⟩)], [1, 2]⟩ _
  refine aw_seq ?_
  refine aw_region_seq [⟨.d (.sl 1 1 ([v].map (.int .i64))), [], [], []⟩, ⟨.d (.int .i64 1), [], [], []⟩, ⟨.d (.int .i64 0), [], [], []⟩] (by kernel_rfl) (by kernel_rfl) (fun id h => hG id (by simp [ks] at h ⊢ <;> omega)) ?_ ?_
  · exact okY rfl (LT_move rfl rfl) <| okY rfl (LT_lenD rfl Tryz.underlying36 rfl) <| okY rfl (LT_move rfl rfl) <| okE
  change AW _ _ _ _ _ _
  refine aw_weak (weak_of [(0, .ptr 1 0), (1, .d (.int .i64 1)), (9, .d (.sl 1 1 ([v].map (.int .i64)))), (10, .d (.int .i64 1)), (11, .d (.int .i64 0))] [(1, some ⟨102, 1, [.own 2 n 1]⟩), (2, some ⟨5, 1, (u8D ns).map X.d⟩)] [1, 2] (sE rfl (sE rfl (sE rfl (sE rfl (sE rfl sE0))))) (sH rfl (sH rfl sH0)) (by simp only [Heap.ids, idsL_d, List.nil_append]; kernel_rfl)) ?_
  refine aw_block ?_
  refine aw_rounds 2 ?_
  change AW _ _ _ _ _ _
  refine aw_seq ?_
  refine aw_region_seq [⟨.d (.bool true), [], [], []⟩] (by kernel_rfl) (by kernel_rfl) (fun id h => hG id (by simp [ks] at h ⊢ <;> omega)) ?_ ?_
  · exact okY rfl (LT_cmp rfl rfl rfl rfl rfl) <| okE
  change AW _ _ _ _ _ _
  refine aw_weak (weak_of [(0, .ptr 1 0), (1, .d (.int .i64 1)), (9, .d (.sl 1 1 ([v].map (.int .i64)))), (10, .d (.int .i64 1)), (11, .d (.int .i64 0)), (12, .d (.bool true))] [(1, some ⟨102, 1, [.own 2 n 1]⟩), (2, some ⟨5, 1, (u8D ns).map X.d⟩)] [1, 2] (sE rfl (sE rfl (sE rfl (sE rfl (sE rfl (sE rfl sE0)))))) (sH rfl (sH rfl sH0)) (by simp only [Heap.ids, idsL_d, List.nil_append]; kernel_rfl)) ?_
  refine aw_seq ?_
  refine aw_condT rfl ?_
  refine aw_skip ?_
  change AW _ _ _ _ _ _
  refine aw_weak (weak_of [(0, .ptr 1 0), (1, .d (.int .i64 1)), (9, .d (.sl 1 1 ([v].map (.int .i64)))), (10, .d (.int .i64 1)), (11, .d (.int .i64 0))] [(1, some ⟨102, 1, [.own 2 n 1]⟩), (2, some ⟨5, 1, (u8D ns).map X.d⟩)] [1, 2] (sE rfl (sE rfl (sE rfl (sE rfl (sE rfl sE0))))) (sH rfl (sH rfl sH0)) (by simp only [Heap.ids, idsL_d, List.nil_append]; kernel_rfl)) ?_
  refine aw_seq ?_
  refine aw_block ?_
  refine aw_seq ?_
  refine aw_region_seq [⟨.dptr [.int .i64 v], [], [], []⟩, ⟨.d (.int .i64 v), [], [], []⟩, ⟨.d (.int .i64 v), [], [], []⟩] (by kernel_rfl) (by kernel_rfl) (fun id h => hG id (by simp [ks] at h ⊢ <;> omega)) ?_ ?_
  · exact okY rfl (LT_indexD rfl rfl rfl Tryz.underlying36 inf3 rfl (by omega) (by omega) rfl) <| okY rfl (LT_loadD 1 rfl rfl Tryz.underlying3 inf3 (by simp) (.inr ⟨rfl, rfl, rfl⟩)) <| okY rfl (LT_assign rfl rfl) <| okE
  change AW _ _ _ _ _ _
  refine aw_weak (weak_of [(0, .ptr 1 0), (1, .d (.int .i64 1)), (9, .d (.sl 1 1 ([v].map (.int .i64)))), (10, .d (.int .i64 1)), (11, .d (.int .i64 0)), (7, .d (.int .i64 v))] [(1, some ⟨102, 1, [.own 2 n 1]⟩), (2, some ⟨5, 1, (u8D ns).map X.d⟩)] [1, 2] (sE rfl (sE rfl (sE rfl (sE rfl (sE rfl (sE rfl sE0)))))) (sH rfl (sH rfl sH0)) (by simp only [Heap.ids, idsL_d, List.nil_append]; kernel_rfl)) ?_
  refine aw_seq ?_
  refine aw_region_seq [⟨.d (.int .i64 1), [], [], []⟩, ⟨.d (.int .i64 0), [], [], []⟩, ⟨.d (.int .i64 0), [], [], []⟩] (by kernel_rfl) (by kernel_rfl) (fun id h => hG id (by simp [ks] at h ⊢ <;> omega)) ?_ ?_
  · exact okY rfl (LT_move rfl rfl) <| okY rfl (LT_sub rfl rfl rfl (by decide)) <| okY rfl (LT_assign rfl rfl) <| okE
  change AW _ _ _ _ _ _
  refine aw_weak (weak_of [(0, .ptr 1 0), (1, .d (.int .i64 1)), (9, .d (.sl 1 1 ([v].map (.int .i64)))), (10, .d (.int .i64 1)), (11, .d (.int .i64 0)), (7, .d (.int .i64 v)), (8, .d (.int .i64 0))] [(1, some ⟨102, 1, [.own 2 n 1]⟩), (2, some ⟨5, 1, (u8D ns).map X.d⟩)] [1, 2] (sE rfl (sE rfl (sE rfl (sE rfl (sE rfl (sE rfl (sE rfl sE0))))))) (sH rfl (sH rfl sH0)) (by simp only [Heap.ids, idsL_d, List.nil_append]; kernel_rfl)) ?_
  refine aw_block ?_
  refine aw_rounds 2 ?_
  change AW _ _ _ _ _ _
  refine aw_seq ?_
  refine aw_seq ?_
  refine aw_region_seq [⟨.d (.int .i64 0), [], [], []⟩, ⟨.d (.bool true), [], [], []⟩] (by kernel_rfl) (by kernel_rfl) (fun id h => hG id (by simp [ks] at h ⊢ <;> omega)) ?_ ?_
  · exact okY rfl (LT_move rfl rfl) <| okY rfl (LT_cmp rfl rfl rfl rfl rfl) <| okE
  change AW _ _ _ _ _ _
  refine aw_weak (weak_of [(0, .ptr 1 0), (1, .d (.int .i64 1)), (9, .d (.sl 1 1 ([v].map (.int .i64)))), (10, .d (.int .i64 1)), (11, .d (.int .i64 0)), (7, .d (.int .i64 v)), (8, .d (.int .i64 0)), (18, .d (.bool true))] [(1, some ⟨102, 1, [.own 2 n 1]⟩), (2, some ⟨5, 1, (u8D ns).map X.d⟩)] [1, 2] (sE rfl (sE rfl (sE rfl (sE rfl (sE rfl (sE rfl (sE rfl (sE rfl sE0)))))))) (sH rfl (sH rfl sH0)) (by simp only [Heap.ids, idsL_d, List.nil_append]; kernel_rfl)) ?_
  refine aw_condT rfl ?_
  refine aw_skip ?_
  change AW _ _ _ _ _ _
  refine aw_weak (weak_of [(0, .ptr 1 0), (1, .d (.int .i64 1)), (9, .d (.sl 1 1 ([v].map (.int .i64)))), (10, .d (.int .i64 1)), (11, .d (.int .i64 0)), (7, .d (.int .i64 v)), (8, .d (.int .i64 0))] [(1, some ⟨102, 1, [.own 2 n 1]⟩), (2, some ⟨5, 1, (u8D ns).map X.d⟩)] [1, 2] (sE rfl (sE rfl (sE rfl (sE rfl (sE rfl (sE rfl (sE rfl sE0))))))) (sH rfl (sH rfl sH0)) (by simp only [Heap.ids, idsL_d, List.nil_append]; kernel_rfl)) ?_
  refine aw_seq ?_
  refine aw_block ?_
  refine aw_region_any rfl [⟨.ptr 1 0, [], [], []⟩, ⟨.ptr 1 0, [], [], []⟩, ⟨.ptr 1 0, [], [], []⟩, ⟨.ptr 1 0, [], [], []⟩, ⟨.own 2 n 1, [], [], [1]⟩, ⟨.d (.int .i64 v), [], [], []⟩, ⟨.d (.int .i64 0), [], [], []⟩, ⟨.d (.int .i64 0), [], [], []⟩, ⟨.d (.int .i64 (v / 1)), [], [], []⟩, ⟨.d (.int .u8 ((v / 1) % 256)), [], [], []⟩, ⟨.d (.sl 1 1 ([((v / 1) % 256)].map (.int .u8))), [], [], []⟩, ⟨.own 3 (n + 1) 1, [(3, some ⟨5, 1, (u8D (ns ++ [(v / 1) % 256])).map X.d⟩), (2, none)], [3], [2]⟩, ⟨.ptr 1 0, [], [], []⟩, ⟨.ptr 1 0, [], [], []⟩, ⟨.tup [], [(1, some ⟨102, 1, [.own 3 (n + 1) 1]⟩)], [], [1]⟩] (by kernel_rfl) (by kernel_rfl) (by kernel_rfl) (fun id h => hG id (by simp [ks] at h ⊢ <;> omega)) ?_ ?_
  · exact okY rfl (LT_move rfl rfl) <| okY rfl (LT_move rfl rfl) <| okY rfl (LT_nilCheck rfl rfl) <| okY rfl (LT_fieldAddr rfl rfl Tryz.underlying100 rfl inf23 (by decide) _ rfl) <| okY rfl (LT_load 1 rfl rfl rfl (List.Mem.head _) Tryz.underlying23 inf23 (by simp) (.inr ⟨rfl, rfl, rfl⟩)) <| okY rfl (LT_move rfl rfl) <| okY rfl (LT_move rfl rfl) <| okY rfl (LT_mul rfl rfl rfl (by decide)) <| okY rfl (LT_shift rfl (.inr rfl) rfl rfl (shrI v 0 1 (by decide) (by decide))) <| okY rfl (LT_conv rfl Tryz.underlying3 Tryz.underlying5 rfl (IntKind.wrap_u8 _)) <| okY rfl (LT_buildSliceD [.d (.int .u8 ((v / 1) % 256))] ([((v / 1) % 256)].map (.int .u8)) rfl Tryz.underlying23 inf5 rfl rfl 1 rfl (by decide) (by decide) rfl rfl (by decide) rfl (by kernel_rfl) rfl) <| okY rfl (LT_append 3 rfl Tryz.underlying23 inf5 rfl rfl rfl (by decide) rfl rfl rfl (List.Mem.head _) (List.Mem.head _) rfl rfl (by show _ = n * 1; simp [u8D]; omega) (by omega) (by omega) (by show (_ + _) * 1 ≤ _; omega) ((u8D (ns ++ [(v / 1) % 256])).map X.d) (by simp [u8D]) (n + 1) rfl) <| okY rfl (LT_nilCheck rfl rfl) <| okY rfl (LT_fieldAddr rfl rfl Tryz.underlying100 rfl inf23 (by decide) _ rfl) <| okY rfl (LT_store (ob := ⟨102, 1, [.own 2 n 1]⟩) (x := .own 3 (n + 1) 1) rfl rfl rfl (List.Mem.head _) inf23 rfl rfl rfl (by simp [X.cells]) _ rfl) <| okE
  change AW _ _ _ _ _ _
  refine aw_weak (weak_of [(0, .ptr 1 0), (1, .d (.int .i64 1)), (9, .d (.sl 1 1 ([v].map (.int .i64)))), (10, .d (.int .i64 1)), (11, .d (.int .i64 0)), (7, .d (.int .i64 v)), (8, .d (.int .i64 0))] [(1, some ⟨102, 1, [.own 3 (n + 1) 1]⟩), (3, some ⟨5, 1, (u8D (ns ++ [(v / 1) % 256])).map X.d⟩)] [1, 3] (sE rfl (sE rfl (sE rfl (sE rfl (sE rfl (sE rfl (sE rfl sE0))))))) (sH rfl (sH rfl sH0)) (by simp only [Heap.ids, idsL_d, List.nil_append]; kernel_rfl)) ?_
  refine aw_region_seq [⟨.d (.int .i64 0), [], [], []⟩, ⟨.d (.int .i64 (-1)), [], [], []⟩, ⟨.d (.int .i64 (-1)), [], [], []⟩] (by kernel_rfl) (by kernel_rfl) (fun id h => hG id (by simp [ks] at h ⊢ <;> omega)) ?_ ?_
  · exact okY rfl (LT_move rfl rfl) <| okY rfl (LT_sub rfl rfl rfl (by decide)) <| okY rfl (LT_assign rfl rfl) <| okE
  change AW _ _ _ _ _ _
  refine aw_weak (weak_of [(0, .ptr 1 0), (1, .d (.int .i64 1)), (9, .d (.sl 1 1 ([v].map (.int .i64)))), (10, .d (.int .i64 1)), (11, .d (.int .i64 0)), (7, .d (.int .i64 v)), (8, .d (.int .i64 (-1)))] [(1, some ⟨102, 1, [.own 3 (n + 1) 1]⟩), (3, some ⟨5, 1, (u8D (ns ++ [(v / 1) % 256])).map X.d⟩)] [1, 3] (sE rfl (sE rfl (sE rfl (sE rfl (sE rfl (sE rfl (sE rfl sE0))))))) (sH rfl (sH rfl sH0)) (by simp only [Heap.ids, idsL_d, List.nil_append]; kernel_rfl)) ?_
  refine aw_seq ?_
  refine aw_seq ?_
  refine aw_region_seq [⟨.d (.int .i64 (-1)), [], [], []⟩, ⟨.d (.bool false), [], [], []⟩] (by kernel_rfl) (by kernel_rfl) (fun id h => hG id (by simp [ks] at h ⊢ <;> omega)) ?_ ?_
  · exact okY rfl (LT_move rfl rfl) <| okY rfl (LT_cmp rfl rfl rfl rfl rfl) <| okE
  change AW _ _ _ _ _ _
  refine aw_weak (weak_of [(0, .ptr 1 0), (1, .d (.int .i64 1)), (9, .d (.sl 1 1 ([v].map (.int .i64)))), (10, .d (.int .i64 1)), (11, .d (.int .i64 0)), (7, .d (.int .i64 v)), (8, .d (.int .i64 (-1))), (18, .d (.bool false))] [(1, some ⟨102, 1, [.own 3 (n + 1) 1]⟩), (3, some ⟨5, 1, (u8D (ns ++ [(v / 1) % 256])).map X.d⟩)] [1, 3] (sE rfl (sE rfl (sE rfl (sE rfl (sE rfl (sE rfl (sE rfl (sE rfl sE0)))))))) (sH rfl (sH rfl sH0)) (by simp only [Heap.ids, idsL_d, List.nil_append]; kernel_rfl)) ?_
  refine aw_condF rfl ?_
  refine aw_exit ?_
  change AW _ _ _ _ _ _
  refine aw_weak (weak_of [(0, .ptr 1 0), (1, .d (.int .i64 1)), (9, .d (.sl 1 1 ([v].map (.int .i64)))), (10, .d (.int .i64 1)), (11, .d (.int .i64 0))] [(1, some ⟨102, 1, [.own 3 (n + 1) 1]⟩), (3, some ⟨5, 1, (u8D (ns ++ [(v / 1) % 256])).map X.d⟩)] [1, 3] (sE rfl (sE rfl (sE rfl (sE rfl (sE rfl sE0))))) (sH rfl (sH rfl sH0)) (by simp only [Heap.ids, idsL_d, List.nil_append]; kernel_rfl)) ?_
  refine aw_region_seq [⟨.d (.int .i64 1), [], [], []⟩, ⟨.d (.int .i64 1), [], [], []⟩] (by kernel_rfl) (by kernel_rfl) (fun id h => hG id (by simp [ks] at h ⊢ <;> omega)) ?_ ?_
  · exact okY rfl (LT_add rfl rfl rfl (by decide)) <| okY rfl (LT_move rfl rfl) <| okE
  change AW _ _ _ _ _ _
  refine aw_weak (weak_of [(0, .ptr 1 0), (1, .d (.int .i64 1)), (9, .d (.sl 1 1 ([v].map (.int .i64)))), (10, .d (.int .i64 1)), (11, .d (.int .i64 1))] [(1, some ⟨102, 1, [.own 3 (n + 1) 1]⟩), (3, some ⟨5, 1, (u8D (ns ++ [(v / 1) % 256])).map X.d⟩)] [1, 3] (sE rfl (sE rfl (sE rfl (sE rfl (sE rfl sE0))))) (sH rfl (sH rfl sH0)) (by simp only [Heap.ids, idsL_d, List.nil_append]; kernel_rfl)) ?_
  refine aw_seq ?_
  refine aw_region_seq [⟨.d (.bool false), [], [], []⟩] (by kernel_rfl) (by kernel_rfl) (fun id h => hG id (by simp [ks] at h ⊢ <;> omega)) ?_ ?_
  · exact okY rfl (LT_cmp rfl rfl rfl rfl rfl) <| okE
  change AW _ _ _ _ _ _
  refine aw_weak (weak_of [(0, .ptr 1 0), (1, .d (.int .i64 1)), (9, .d (.sl 1 1 ([v].map (.int .i64)))), (10, .d (.int .i64 1)), (11, .d (.int .i64 1)), (12, .d (.bool false))] [(1, some ⟨102, 1, [.own 3 (n + 1) 1]⟩), (3, some ⟨5, 1, (u8D (ns ++ [(v / 1) % 256])).map X.d⟩)] [1, 3] (sE rfl (sE rfl (sE rfl (sE rfl (sE rfl (sE rfl sE0)))))) (sH rfl (sH rfl sH0)) (by simp only [Heap.ids, idsL_d, List.nil_append]; kernel_rfl)) ?_
  refine aw_seq ?_
  refine aw_condF rfl ?_
  refine aw_exit ?_
  refine ⟨?_, (sH rfl (sH rfl sH0))⟩
  refine finN (xs := []) (l := []) (.inr rfl) Tryz.results116 (rL0) (by simp) ?_
  exact rfl

set_option maxRecDepth 100000 in
set_option maxHeartbeats 2000000 in
theorem put2 (σ : Nat → Nat) {H : Heap} (v : Int) (n : Nat) (ns : List Int) (hn : ns.length = n) (hbig : n ≤ 1000000) (hH : subR σ [(1, some ⟨102, 1, [.own 2 n 1]⟩), (2, some ⟨5, 1, (u8D ns).map X.d⟩)] H) (hinj : ((ks [(1, some ⟨102, 1, [.own 2 n 1]⟩), (2, some ⟨5, 1, (u8D ns).map X.d⟩)] ++ newL [(1, some ⟨102, 1, [.own 2 n 1]⟩), (2, some ⟨5, 1, (u8D ns).map X.d⟩)] [(1, some ⟨102, 1, [.own 4 (n + 2) 1]⟩), (4, some ⟨5, 1, (u8D (ns ++ [(v / 256) % 256, (v / 1) % 256])).map X.d⟩)]).map σ).Nodup) : CT Tryz.prog 116 ([.ptr 1 0, .d (.int .i64 2), .d (.sl 1 1 ([v].map (.int .i64)))].map (X.ren σ)) H ((ks [(1, some ⟨102, 1, [.own 2 n 1]⟩), (2, some ⟨5, 1, (u8D ns).map X.d⟩)]).map σ) ((newL [(1, some ⟨102, 1, [.own 2 n 1]⟩), (2, some ⟨5, 1, (u8D ns).map X.d⟩)] [(1, some ⟨102, 1, [.own 4 (n + 2) 1]⟩), (4, some ⟨5, 1, (u8D (ns ++ [(v / 256) % 256, (v / 1) % 256])).map X.d⟩)]).map σ) (updOf σ [(1, some ⟨102, 1, [.own 2 n 1]⟩), (2, some ⟨5, 1, (u8D ns).map X.d⟩)] [(1, some ⟨102, 1, [.own 4 (n + 2) 1]⟩), (4, some ⟨5, 1, (u8D (ns ++ [(v / 256) % 256, (v / 1) % 256])).map X.d⟩)]) (X.ren σ (.tup [])) := by
  refine CT_of (fn := Tryz.f116) (rl := .tup []) σ [(1, some ⟨102, 1, [.own 2 n 1]⟩), (2, some ⟨5, 1, (u8D ns).map X.d⟩)] [(1, some ⟨102, 1, [.own 4 (n + 2) 1]⟩), (4, some ⟨5, 1, (u8D (ns ++ [(v / 256) % 256, (v / 1) % 256])).map X.d⟩)] Tryz.func116 rfl (by simp [Tryz.ntmps116]) hH hinj (by simp [Heap.ids, X.idsL, X.ids, idsL_d, ks]) (by simp [Heap.ids, X.idsL, X.ids, idsL_d, ks]) (fun j o h1 h2 => by simp [ks] at h1; rcases h1 with rfl | rfl <;> simp [look] at h2 <;> subst h2 <;> simp) fun G hG => ?_
  rw [Tryz.ntmps116]
  change AW _ _ _ _ ⟨[(0, .ptr 1 0), (1, .d (.int .i64 2)), (2, .d (.sl 1 1 ([v].map (.int .i64))))], [(1, some ⟨102, 1, [.own 2 n 1]⟩), (2, some ⟨5, 1, (u8D ns).map X.d⟩)], [1, 2]⟩ _
  refine aw_seq ?_
  refine aw_region_seq [⟨.d (.sl 1 1 ([v].map (.int .i64))), [], [], []⟩, ⟨.d (.int .i64 1), [], [], []⟩, ⟨.d (.int .i64 0), [], [], []⟩] (by kernel_rfl) (by kernel_rfl) (fun id h => hG id (by simp [ks] at h ⊢ <;> omega)) ?_ ?_
  · exact okY rfl (LT_move rfl rfl) <| okY rfl (LT_lenD rfl Tryz.underlying36 rfl) <| okY rfl (LT_move rfl rfl) <| okE
  change AW _ _ _ _ _ _
  refine aw_weak (weak_of [(0, .ptr 1 0), (1, .d (.int .i64 2)), (9, .d (.sl 1 1 ([v].map (.int .i64)))), (10, .d (.int .i64 1)), (11, .d (.int .i64 0))] [(1, some ⟨102, 1, [.own 2 n 1]⟩), (2, some ⟨5, 1, (u8D ns).map X.d⟩)] [1, 2] (sE rfl (sE rfl (sE rfl (sE rfl (sE rfl sE0))))) (sH rfl (sH rfl sH0)) (by simp only [Heap.ids, idsL_d, List.nil_append]; kernel_rfl)) ?_
  refine aw_block ?_
  refine aw_rounds 2 ?_
  change AW _ _ _ _ _ _
  refine aw_seq ?_
  refine aw_region_seq [⟨.d (.bool true), [], [], []⟩] (by kernel_rfl) (by kernel_rfl) (fun id h => hG id (by simp [ks] at h ⊢ <;> omega)) ?_ ?_
  · exact okY rfl (LT_cmp rfl rfl rfl rfl rfl) <| okE
  change AW _ _ _ _ _ _
  refine aw_weak (weak_of [(0, .ptr 1 0), (1, .d (.int .i64 2)), (9, .d (.sl 1 1 ([v].map (.int .i64)))), (10, .d (.int .i64 1)), (11, .d (.int .i64 0)), (12, .d (.bool true))] [(1, some ⟨102, 1, [.own 2 n 1]⟩), (2, some ⟨5, 1, (u8D ns).map X.d⟩)] [1, 2] (sE rfl (sE rfl (sE rfl (sE rfl (sE rfl (sE rfl sE0)))))) (sH rfl (sH rfl sH0)) (by simp only [Heap.ids, idsL_d, List.nil_append]; kernel_rfl)) ?_
  refine aw_seq ?_
  refine aw_condT rfl ?_
  refine aw_skip ?_
  change AW _ _ _ _ _ _
  refine aw_weak (weak_of [(0, .ptr 1 0), (1, .d (.int .i64 2)), (9, .d (.sl 1 1 ([v].map (.int .i64)))), (10, .d (.int .i64 1)), (11, .d (.int .i64 0))] [(1, some ⟨102, 1, [.own 2 n 1]⟩), (2, some ⟨5, 1, (u8D ns).map X.d⟩)] [1, 2] (sE rfl (sE rfl (sE rfl (sE rfl (sE rfl sE0))))) (sH rfl (sH rfl sH0)) (by simp only [Heap.ids, idsL_d, List.nil_append]; kernel_rfl)) ?_
  refine aw_seq ?_
  refine aw_block ?_
  refine aw_seq ?_
  refine aw_region_seq [⟨.dptr [.int .i64 v], [], [], []⟩, ⟨.d (.int .i64 v), [], [], []⟩, ⟨.d (.int .i64 v), [], [], []⟩] (by kernel_rfl) (by kernel_rfl) (fun id h => hG id (by simp [ks] at h ⊢ <;> omega)) ?_ ?_
  · exact okY rfl (LT_indexD rfl rfl rfl Tryz.underlying36 inf3 rfl (by omega) (by omega) rfl) <| okY rfl (LT_loadD 1 rfl rfl Tryz.underlying3 inf3 (by simp) (.inr ⟨rfl, rfl, rfl⟩)) <| okY rfl (LT_assign rfl rfl) <| okE
  change AW _ _ _ _ _ _
  refine aw_weak (weak_of [(0, .ptr 1 0), (1, .d (.int .i64 2)), (9, .d (.sl 1 1 ([v].map (.int .i64)))), (10, .d (.int .i64 1)), (11, .d (.int .i64 0)), (7, .d (.int .i64 v))] [(1, some ⟨102, 1, [.own 2 n 1]⟩), (2, some ⟨5, 1, (u8D ns).map X.d⟩)] [1, 2] (sE rfl (sE rfl (sE rfl (sE rfl (sE rfl (sE rfl sE0)))))) (sH rfl (sH rfl sH0)) (by simp only [Heap.ids, idsL_d, List.nil_append]; kernel_rfl)) ?_
  refine aw_seq ?_
  refine aw_region_seq [⟨.d (.int .i64 2), [], [], []⟩, ⟨.d (.int .i64 1), [], [], []⟩, ⟨.d (.int .i64 1), [], [], []⟩] (by kernel_rfl) (by kernel_rfl) (fun id h => hG id (by simp [ks] at h ⊢ <;> omega)) ?_ ?_
  · exact okY rfl (LT_move rfl rfl) <| okY rfl (LT_sub rfl rfl rfl (by decide)) <| okY rfl (LT_assign rfl rfl) <| okE
  change AW _ _ _ _ _ _
  refine aw_weak (weak_of [(0, .ptr 1 0), (1, .d (.int .i64 2)), (9, .d (.sl 1 1 ([v].map (.int .i64)))), (10, .d (.int .i64 1)), (11, .d (.int .i64 0)), (7, .d (.int .i64 v)), (8, .d (.int .i64 1))] [(1, some ⟨102, 1, [.own 2 n 1]⟩), (2, some ⟨5, 1, (u8D ns).map X.d⟩)] [1, 2] (sE rfl (sE rfl (sE rfl (sE rfl (sE rfl (sE rfl (sE rfl sE0))))))) (sH rfl (sH rfl sH0)) (by simp only [Heap.ids, idsL_d, List.nil_append]; kernel_rfl)) ?_
  refine aw_block ?_
  refine aw_rounds 3 ?_
  change AW _ _ _ _ _ _
  refine aw_seq ?_
  refine aw_seq ?_
  refine aw_region_seq [⟨.d (.int .i64 1), [], [], []⟩, ⟨.d (.bool true), [], [], []⟩] (by kernel_rfl) (by kernel_rfl) (fun id h => hG id (by simp [ks] at h ⊢ <;> omega)) ?_ ?_
  · exact okY rfl (LT_move rfl rfl) <| okY rfl (LT_cmp rfl rfl rfl rfl rfl) <| okE
  change AW _ _ _ _ _ _
  refine aw_weak (weak_of [(0, .ptr 1 0), (1, .d (.int .i64 2)), (9, .d (.sl 1 1 ([v].map (.int .i64)))), (10, .d (.int .i64 1)), (11, .d (.int .i64 0)), (7, .d (.int .i64 v)), (8, .d (.int .i64 1)), (18, .d (.bool true))] [(1, some ⟨102, 1, [.own 2 n 1]⟩), (2, some ⟨5, 1, (u8D ns).map X.d⟩)] [1, 2] (sE rfl (sE rfl (sE rfl (sE rfl (sE rfl (sE rfl (sE rfl (sE rfl sE0)))))))) (sH rfl (sH rfl sH0)) (by simp only [Heap.ids, idsL_d, List.nil_append]; kernel_rfl)) ?_
  refine aw_condT rfl ?_
  refine aw_skip ?_
  change AW _ _ _ _ _ _
  refine aw_weak (weak_of [(0, .ptr 1 0), (1, .d (.int .i64 2)), (9, .d (.sl 1 1 ([v].map (.int .i64)))), (10, .d (.int .i64 1)), (11, .d (.int .i64 0)), (7, .d (.int .i64 v)), (8, .d (.int .i64 1))] [(1, some ⟨102, 1, [.own 2 n 1]⟩), (2, some ⟨5, 1, (u8D ns).map X.d⟩)] [1, 2] (sE rfl (sE rfl (sE rfl (sE rfl (sE rfl (sE rfl (sE rfl sE0))))))) (sH rfl (sH rfl sH0)) (by simp only [Heap.ids, idsL_d, List.nil_append]; kernel_rfl)) ?_
  refine aw_seq ?_
  refine aw_block ?_
  refine aw_region_any rfl [⟨.ptr 1 0, [], [], []⟩, ⟨.ptr 1 0, [], [], []⟩, ⟨.ptr 1 0, [], [], []⟩, ⟨.ptr 1 0, [], [], []⟩, ⟨.own 2 n 1, [], [], [1]⟩, ⟨.d (.int .i64 v), [], [], []⟩, ⟨.d (.int .i64 1), [], [], []⟩, ⟨.d (.int .i64 8), [], [], []⟩, ⟨.d (.int .i64 (v / 256)), [], [], []⟩, ⟨.d (.int .u8 ((v / 256) % 256)), [], [], []⟩, ⟨.d (.sl 1 1 ([((v / 256) % 256)].map (.int .u8))), [], [], []⟩, ⟨.own 3 (n + 1) 1, [(3, some ⟨5, 1, (u8D (ns ++ [(v / 256) % 256])).map X.d⟩), (2, none)], [3], [2]⟩, ⟨.ptr 1 0, [], [], []⟩, ⟨.ptr 1 0, [], [], []⟩, ⟨.tup [], [(1, some ⟨102, 1, [.own 3 (n + 1) 1]⟩)], [], [1]⟩] (by kernel_rfl) (by kernel_rfl) (by kernel_rfl) (fun id h => hG id (by simp [ks] at h ⊢ <;> omega)) ?_ ?_
  · exact okY rfl (LT_move rfl rfl) <| okY rfl (LT_move rfl rfl) <| okY rfl (LT_nilCheck rfl rfl) <| okY rfl (LT_fieldAddr rfl rfl Tryz.underlying100 rfl inf23 (by decide) _ rfl) <| okY rfl (LT_load 1 rfl rfl rfl (List.Mem.head _) Tryz.underlying23 inf23 (by simp) (.inr ⟨rfl, rfl, rfl⟩)) <| okY rfl (LT_move rfl rfl) <| okY rfl (LT_move rfl rfl) <| okY rfl (LT_mul rfl rfl rfl (by decide)) <| okY rfl (LT_shift rfl (.inr rfl) rfl rfl (shrI v 8 256 (by decide) (by decide))) <| okY rfl (LT_conv rfl Tryz.underlying3 Tryz.underlying5 rfl (IntKind.wrap_u8 _)) <| okY rfl (LT_buildSliceD [.d (.int .u8 ((v / 256) % 256))] ([((v / 256) % 256)].map (.int .u8)) rfl Tryz.underlying23 inf5 rfl rfl 1 rfl (by decide) (by decide) rfl rfl (by decide) rfl (by kernel_rfl) rfl) <| okY rfl (LT_append 3 rfl Tryz.underlying23 inf5 rfl rfl rfl (by decide) rfl rfl rfl (List.Mem.head _) (List.Mem.head _) rfl rfl (by show _ = n * 1; simp [u8D]; omega) (by omega) (by omega) (by show (_ + _) * 1 ≤ _; omega) ((u8D (ns ++ [(v / 256) % 256])).map X.d) (by simp [u8D]) (n + 1) rfl) <| okY rfl (LT_nilCheck rfl rfl) <| okY rfl (LT_fieldAddr rfl rfl Tryz.underlying100 rfl inf23 (by decide) _ rfl) <| okY rfl (LT_store (ob := ⟨102, 1, [.own 2 n 1]⟩) (x := .own 3 (n + 1) 1) rfl rfl rfl (List.Mem.head _) inf23 rfl rfl rfl (by simp [X.cells]) _ rfl) <| okE
  change AW _ _ _ _ _ _
  refine aw_weak (weak_of [(0, .ptr 1 0), (1, .d (.int .i64 2)), (9, .d (.sl 1 1 ([v].map (.int .i64)))), (10, .d (.int .i64 1)), (11, .d (.int .i64 0)), (7, .d (.int .i64 v)), (8, .d (.int .i64 1))] [(1, some ⟨102, 1, [.own 3 (n + 1) 1]⟩), (3, some ⟨5, 1, (u8D (ns ++ [(v / 256) % 256])).map X.d⟩)] [1, 3] (sE rfl (sE rfl (sE rfl (sE rfl (sE rfl (sE rfl (sE rfl sE0))))))) (sH rfl (sH rfl sH0)) (by simp only [Heap.ids, idsL_d, List.nil_append]; kernel_rfl)) ?_
  refine aw_region_seq [⟨.d (.int .i64 1), [], [], []⟩, ⟨.d (.int .i64 0), [], [], []⟩, ⟨.d (.int .i64 0), [], [], []⟩] (by kernel_rfl) (by kernel_rfl) (fun id h => hG id (by simp [ks] at h ⊢ <;> omega)) ?_ ?_
  · exact okY rfl (LT_move rfl rfl) <| okY rfl (LT_sub rfl rfl rfl (by decide)) <| okY rfl (LT_assign rfl rfl) <| okE
  change AW _ _ _ _ _ _
  refine aw_weak (weak_of [(0, .ptr 1 0), (1, .d (.int .i64 2)), (9, .d (.sl 1 1 ([v].map (.int .i64)))), (10, .d (.int .i64 1)), (11, .d (.int .i64 0)), (7, .d (.int .i64 v)), (8, .d (.int .i64 0))] [(1, some ⟨102, 1, [.own 3 (n + 1) 1]⟩), (3, some ⟨5, 1, (u8D (ns ++ [(v / 256) % 256])).map X.d⟩)] [1, 3] (sE rfl (sE rfl (sE rfl (sE rfl (sE rfl (sE rfl (sE rfl sE0))))))) (sH rfl (sH rfl sH0)) (by simp only [Heap.ids, idsL_d, List.nil_append]; kernel_rfl)) ?_
  refine aw_seq ?_
  refine aw_seq ?_
  refine aw_region_seq [⟨.d (.int .i64 0), [], [], []⟩, ⟨.d (.bool true), [], [], []⟩] (by kernel_rfl) (by kernel_rfl) (fun id h => hG id (by simp [ks] at h ⊢ <;> omega)) ?_ ?_
  · exact okY rfl (LT_move rfl rfl) <| okY rfl (LT_cmp rfl rfl rfl rfl rfl) <| okE
  change AW _ _ _ _ _ _
  refine aw_weak (weak_of [(0, .ptr 1 0), (1, .d (.int .i64 2)), (9, .d (.sl 1 1 ([v].map (.int .i64)))), (10, .d (.int .i64 1)), (11, .d (.int .i64 0)), (7, .d (.int .i64 v)), (8, .d (.int .i64 0)), (18, .d (.bool true))] [(1, some ⟨102, 1, [.own 3 (n + 1) 1]⟩), (3, some ⟨5, 1, (u8D (ns ++ [(v / 256) % 256])).map X.d⟩)] [1, 3] (sE rfl (sE rfl (sE rfl (sE rfl (sE rfl (sE rfl (sE rfl (sE rfl sE0)))))))) (sH rfl (sH rfl sH0)) (by simp only [Heap.ids, idsL_d, List.nil_append]; kernel_rfl)) ?_
  refine aw_condT rfl ?_
  refine aw_skip ?_
  change AW _ _ _ _ _ _
  refine aw_weak (weak_of [(0, .ptr 1 0), (1, .d (.int .i64 2)), (9, .d (.sl 1 1 ([v].map (.int .i64)))), (10, .d (.int .i64 1)), (11, .d (.int .i64 0)), (7, .d (.int .i64 v)), (8, .d (.int .i64 0))] [(1, some ⟨102, 1, [.own 3 (n + 1) 1]⟩), (3, some ⟨5, 1, (u8D (ns ++ [(v / 256) % 256])).map X.d⟩)] [1, 3] (sE rfl (sE rfl (sE rfl (sE rfl (sE rfl (sE rfl (sE rfl sE0))))))) (sH rfl (sH rfl sH0)) (by simp only [Heap.ids, idsL_d, List.nil_append]; kernel_rfl)) ?_
  refine aw_seq ?_
  refine aw_block ?_
  refine aw_region_any rfl [⟨.ptr 1 0, [], [], []⟩, ⟨.ptr 1 0, [], [], []⟩, ⟨.ptr 1 0, [], [], []⟩, ⟨.ptr 1 0, [], [], []⟩, ⟨.own 3 (n + 1) 1, [], [], [1]⟩, ⟨.d (.int .i64 v), [], [], []⟩, ⟨.d (.int .i64 0), [], [], []⟩, ⟨.d (.int .i64 0), [], [], []⟩, ⟨.d (.int .i64 (v / 1)), [], [], []⟩, ⟨.d (.int .u8 ((v / 1) % 256)), [], [], []⟩, ⟨.d (.sl 1 1 ([((v / 1) % 256)].map (.int .u8))), [], [], []⟩, ⟨.own 4 ((n + 1) + 1) 1, [(4, some ⟨5, 1, (u8D (ns ++ [(v / 256) % 256, (v / 1) % 256])).map X.d⟩), (3, none)], [4], [3]⟩, ⟨.ptr 1 0, [], [], []⟩, ⟨.ptr 1 0, [], [], []⟩, ⟨.tup [], [(1, some ⟨102, 1, [.own 4 ((n + 1) + 1) 1]⟩)], [], [1]⟩] (by kernel_rfl) (by kernel_rfl) (by kernel_rfl) (fun id h => hG id (by simp [ks] at h ⊢ <;> omega)) ?_ ?_
  · exact okY rfl (LT_move rfl rfl) <| okY rfl (LT_move rfl rfl) <| okY rfl (LT_nilCheck rfl rfl) <| okY rfl (LT_fieldAddr rfl rfl Tryz.underlying100 rfl inf23 (by decide) _ rfl) <| okY rfl (LT_load 1 rfl rfl rfl (List.Mem.head _) Tryz.underlying23 inf23 (by simp) (.inr ⟨rfl, rfl, rfl⟩)) <| okY rfl (LT_move rfl rfl) <| okY rfl (LT_move rfl rfl) <| okY rfl (LT_mul rfl rfl rfl (by decide)) <| okY rfl (LT_shift rfl (.inr rfl) rfl rfl (shrI v 0 1 (by decide) (by decide))) <| okY rfl (LT_conv rfl Tryz.underlying3 Tryz.underlying5 rfl (IntKind.wrap_u8 _)) <| okY rfl (LT_buildSliceD [.d (.int .u8 ((v / 1) % 256))] ([((v / 1) % 256)].map (.int .u8)) rfl Tryz.underlying23 inf5 rfl rfl 1 rfl (by decide) (by decide) rfl rfl (by decide) rfl (by kernel_rfl) rfl) <| okY rfl (LT_append 4 rfl Tryz.underlying23 inf5 rfl rfl rfl (by decide) rfl rfl rfl (List.Mem.head _) (List.Mem.head _) rfl rfl (by show _ = (n + 1) * 1; simp [u8D]; omega) (by omega) (by omega) (by show (_ + _) * 1 ≤ _; omega) ((u8D (ns ++ [(v / 256) % 256, (v / 1) % 256])).map X.d) (by simp [u8D]) ((n + 1) + 1) rfl) <| okY rfl (LT_nilCheck rfl rfl) <| okY rfl (LT_fieldAddr rfl rfl Tryz.underlying100 rfl inf23 (by decide) _ rfl) <| okY rfl (LT_store (ob := ⟨102, 1, [.own 3 (n + 1) 1]⟩) (x := .own 4 ((n + 1) + 1) 1) rfl rfl rfl (List.Mem.head _) inf23 rfl rfl rfl (by simp [X.cells]) _ rfl) <| okE
  change AW _ _ _ _ _ _
  refine aw_weak (weak_of [(0, .ptr 1 0), (1, .d (.int .i64 2)), (9, .d (.sl 1 1 ([v].map (.int .i64)))), (10, .d (.int .i64 1)), (11, .d (.int .i64 0)), (7, .d (.int .i64 v)), (8, .d (.int .i64 0))] [(1, some ⟨102, 1, [.own 4 ((n + 1) + 1) 1]⟩), (4, some ⟨5, 1, (u8D (ns ++ [(v / 256) % 256, (v / 1) % 256])).map X.d⟩)] [1, 4] (sE rfl (sE rfl (sE rfl (sE rfl (sE rfl (sE rfl (sE rfl sE0))))))) (sH rfl (sH rfl sH0)) (by simp only [Heap.ids, idsL_d, List.nil_append]; kernel_rfl)) ?_
  refine aw_region_seq [⟨.d (.int .i64 0), [], [], []⟩, ⟨.d (.int .i64 (-1)), [], [], []⟩, ⟨.d (.int .i64 (-1)), [], [], []⟩] (by kernel_rfl) (by kernel_rfl) (fun id h => hG id (by simp [ks] at h ⊢ <;> omega)) ?_ ?_
  · exact okY rfl (LT_move rfl rfl) <| okY rfl (LT_sub rfl rfl rfl (by decide)) <| okY rfl (LT_assign rfl rfl) <| okE
  change AW _ _ _ _ _ _
  refine aw_weak (weak_of [(0, .ptr 1 0), (1, .d (.int .i64 2)), (9, .d (.sl 1 1 ([v].map (.int .i64)))), (10, .d (.int .i64 1)), (11, .d (.int .i64 0)), (7, .d (.int .i64 v)), (8, .d (.int .i64 (-1)))] [(1, some ⟨102, 1, [.own 4 ((n + 1) + 1) 1]⟩), (4, some ⟨5, 1, (u8D (ns ++ [(v / 256) % 256, (v / 1) % 256])).map X.d⟩)] [1, 4] (sE rfl (sE rfl (sE rfl (sE rfl (sE rfl (sE rfl (sE rfl sE0))))))) (sH rfl (sH rfl sH0)) (by simp only [Heap.ids, idsL_d, List.nil_append]; kernel_rfl)) ?_
  refine aw_seq ?_
  refine aw_seq ?_
  refine aw_region_seq [⟨.d (.int .i64 (-1)), [], [], []⟩, ⟨.d (.bool false), [], [], []⟩] (by kernel_rfl) (by kernel_rfl) (fun id h => hG id (by simp [ks] at h ⊢ <;> omega)) ?_ ?_
  · exact okY rfl (LT_move rfl rfl) <| okY rfl (LT_cmp rfl rfl rfl rfl rfl) <| okE
  change AW _ _ _ _ _ _
  refine aw_weak (weak_of [(0, .ptr 1 0), (1, .d (.int .i64 2)), (9, .d (.sl 1 1 ([v].map (.int .i64)))), (10, .d (.int .i64 1)), (11, .d (.int .i64 0)), (7, .d (.int .i64 v)), (8, .d (.int .i64 (-1))), (18, .d (.bool false))] [(1, some ⟨102, 1, [.own 4 ((n + 1) + 1) 1]⟩), (4, some ⟨5, 1, (u8D (ns ++ [(v / 256) % 256, (v / 1) % 256])).map X.d⟩)] [1, 4] (sE rfl (sE rfl (sE rfl (sE rfl (sE rfl (sE rfl (sE rfl (sE rfl sE0)))))))) (sH rfl (sH rfl sH0)) (by simp only [Heap.ids, idsL_d, List.nil_append]; kernel_rfl)) ?_
  refine aw_condF rfl ?_
  refine aw_exit ?_
  change AW _ _ _ _ _ _
  refine aw_weak (weak_of [(0, .ptr 1 0), (1, .d (.int .i64 2)), (9, .d (.sl 1 1 ([v].map (.int .i64)))), (10, .d (.int .i64 1)), (11, .d (.int .i64 0))] [(1, some ⟨102, 1, [.own 4 ((n + 1) + 1) 1]⟩), (4, some ⟨5, 1, (u8D (ns ++ [(v / 256) % 256, (v / 1) % 256])).map X.d⟩)] [1, 4] (sE rfl (sE rfl (sE rfl (sE rfl (sE rfl sE0))))) (sH rfl (sH rfl sH0)) (by simp only [Heap.ids, idsL_d, List.nil_append]; kernel_rfl)) ?_
  refine aw_region_seq [⟨.d (.int .i64 1), [], [], []⟩, ⟨.d (.int .i64 1), [], [], []⟩] (by kernel_rfl) (by kernel_rfl) (fun id h => hG id (by simp [ks] at h ⊢ <;> omega)) ?_ ?_
  · exact okY rfl (LT_add rfl rfl rfl (by decide)) <| okY rfl (LT_move rfl rfl) <| okE
  change AW _ _ _ _ _ _
  refine aw_weak (weak_of [(0, .ptr 1 0), (1, .d (.int .i64 2)), (9, .d (.sl 1 1 ([v].map (.int .i64)))), (10, .d (.int .i64 1)), (11, .d (.int .i64 1))] [(1, some ⟨102, 1, [.own 4 ((n + 1) + 1) 1]⟩), (4, some ⟨5, 1, (u8D (ns ++ [(v / 256) % 256, (v / 1) % 256])).map X.d⟩)] [1, 4] (sE rfl (sE rfl (sE rfl (sE rfl (sE rfl sE0))))) (sH rfl (sH rfl sH0)) (by simp only [Heap.ids, idsL_d, List.nil_append]; kernel_rfl)) ?_
  refine aw_seq ?_
  refine aw_region_seq [⟨.d (.bool false), [], [], []⟩] (by kernel_rfl) (by kernel_rfl) (fun id h => hG id (by simp [ks] at h ⊢ <;> omega)) ?_ ?_
  · exact okY rfl (LT_cmp rfl rfl rfl rfl rfl) <| okE
  change AW _ _ _ _ _ _
  refine aw_weak (weak_of [(0, .ptr 1 0), (1, .d (.int .i64 2)), (9, .d (.sl 1 1 ([v].map (.int .i64)))), (10, .d (.int .i64 1)), (11, .d (.int .i64 1)), (12, .d (.bool false))] [(1, some ⟨102, 1, [.own 4 ((n + 1) + 1) 1]⟩), (4, some ⟨5, 1, (u8D (ns ++ [(v / 256) % 256, (v / 1) % 256])).map X.d⟩)] [1, 4] (sE rfl (sE rfl (sE rfl (sE rfl (sE rfl (sE rfl sE0)))))) (sH rfl (sH rfl sH0)) (by simp only [Heap.ids, idsL_d, List.nil_append]; kernel_rfl)) ?_
  refine aw_seq ?_
  refine aw_condF rfl ?_
  refine aw_exit ?_
  refine ⟨?_, (sH rfl (sH rfl sH0))⟩
  refine finN (xs := []) (l := []) (.inr rfl) Tryz.results116 (rL0) (by simp) ?_
  exact rfl

end Go.Proofs.YtaacgmcgmljjeaaGreat

/- The calculus of states: two names changed for one another. -/
namespace Go.Proofs.YtaacgmcgmljjeaaGreat
open Go.RowKit

/-! ### two names changed for one another -/
def sw (a b i : Nat) : Nat := if i = a then b else if i = b then a else i
theorem sw_sw (a b i : Nat) : sw a b (sw a b i) = i := by
  unfold sw
  by_cases h1 : i = a
  · subst h1
    by_cases h2 : b = i
    · subst h2; simp
    · simp [h2]
  · by_cases h2 : i = b
    · subst h2; simp [h1]
    · simp [h1, h2]

theorem get_ren (σ : Nat → Nat) (E : Env) (t : Nat) : get (E.map fun p => (p.1, p.2.ren σ)) t = (get E t).ren σ := by
  induction E with
  | nil => rfl
  | cons p r ih =>
    obtain ⟨j, x⟩ := p
    by_cases h : j = t
    · subst h; simp [get]
    · simp only [List.map_cons, get, if_neg h, ih]

theorem weak_swap2 {G : Ctx} {N : Nat} {s : St} {a b : Nat} (ha : G.ρ0 a = none) (hb : G.ρ0 b = none) : Weak G N s ⟨s.E.map fun p => (p.1, p.2.ren (sw a b)), renU (sw a b) s.H, s.U.map (sw a b)⟩ := by
  intro ρ ac w hr
  have hl : ∀ i, look (renU (sw a b) s.H) i = (look s.H (sw a b i)).map (Ob.ren (sw a b)) := fun i => by
    have h := look_renU (σ := sw a b) (H := s.H) (j := sw a b i) fun k _ hk => by
      have := congrArg (sw a b) hk
      simpa only [sw_sw] using this
    rwa [sw_sw] at h
  let ρ' : Rho := fun i => ρ (sw a b i)
  have hρ : ∀ i, ρ' (sw a b i) = ρ i := fun i => congrArg ρ (sw_sw a b i)
  have hm : ∀ c, Mt ρ' (renU (sw a b) s.H) c → Mt ρ s.H c := by
    rintro c ⟨i, o, cap, h1, h2⟩
    rw [hl] at h1
    cases h3 : look s.H (sw a b i) with
    | none => rw [h3] at h1; cases h1
    | some o' => exact ⟨sw a b i, o', cap, h3, h2⟩
  have hlat : Later w (G.M ρ s.H) w (G.M ρ' (renU (sw a b) s.H)) := ⟨Nat.le_refl _, fun _ _ _ => rfl, fun c _ h => h.imp id (hm c)⟩
  have hlook : ∀ i, look (renU (sw a b) s.H) i ≠ none → look s.H (sw a b i) ≠ none := fun i h h' => h (by rw [hl, h']; rfl)
  -- first to fewer names that may turn, then by new names
  have hrv : ∀ {v x}, RV w (G.M ρ s.H) ρ v x → RV w (G.M ρ' (renU (sw a b) s.H)) ρ' v (x.ren (sw a b)) := fun h => (h.later hlat (Ext.refl _)).ren fun id _ => hρ id
  refine ⟨ρ', ⟨hr.sat.below, fun id p hp => (by
      have h1 : id ≠ a := fun e => by rw [e, ha] at hp; cases hp
      have h2 : id ≠ b := fun e => by rw [e, hb] at hp; cases hp
      show ρ (sw a b id) = _
      rw [show sw a b id = id by unfold sw; rw [if_neg h1, if_neg h2]]
      exact hr.sat.base id p hp), fun i j c c1 c2 h1 h2 h3 h4 => ?_, fun i o hi => ?_⟩, fun t => ?_, fun id hid hg => ?_, hr.size, hr.defers⟩
  · have := hr.sat.inj _ _ c c1 c2 (hlook i h1) (hlook j h2) h3 h4
    have := congrArg (sw a b) this
    simpa only [sw_sw] using this
  · rw [hl] at hi
    cases h3 : look s.H (sw a b i) with
    | none => rw [h3] at hi; cases hi
    | some o' =>
      rw [h3] at hi
      cases hi
      rcases hr.sat.obj _ o' h3 with ⟨z1, z2⟩ | ⟨c, cap, cs, g1, g2, g3, g4, g5, g6⟩
      · exact .inl ⟨by simp [Ob.ren, z1], z2⟩
      · refine .inr ⟨c, cap, cs, g1, g2, g3, g4, by simpa [Ob.ren] using g5, fun q v x hv hx => ?_⟩
        simp only [Ob.ren, List.getElem?_map] at hx
        cases hq : o'.cs[q]? with
        | none => rw [hq] at hx; cases hx
        | some y =>
          rw [hq] at hx
          cases hx
          exact hrv (g6 q v y hv hq)
  · show RV _ _ _ _ (get (s.E.map fun p => (p.1, p.2.ren (sw a b))) t)
    rw [get_ren]
    exact hrv (hr.env t)
  · show id ∈ s.U.map (sw a b)
    have hg' : G.ρ0 (sw a b id) = none := by
      unfold sw
      split
      · exact hb
      · split
        · exact ha
        · exact hg
    have := hr.used (sw a b id) hid hg'
    exact List.mem_map.2 ⟨_, this, sw_sw a b id⟩

theorem ren_d (σ : Nat → Nat) (c : List D) : (c.map X.d).map (X.ren σ) = c.map X.d := by
  rw [List.map_map]
  rfl

end Go.Proofs.YtaacgmcgmljjeaaGreat

/- The buffer of the tag layer: a list of numbers. -/
namespace Go.Proofs.YtaacgmcgmljjeaaGreat
open Go.RowKit

def be4 (v : Int) : List Int := [v / 16777216 % 256, v / 65536 % 256, v / 256 % 256, v / 1 % 256]
def be4L (l : List Int) (i : Nat) : List Int := (l.take i).flatMap be4
theorem be4L_len {l : List Int} {i : Nat} (h : i ≤ l.length) : (be4L l i).length = 4 * i := by
  unfold be4L
  induction i with
  | zero => simp
  | succ i ih => rw [List.take_succ_eq_append_getElem (by omega), List.flatMap_append, List.length_append, ih (by omega)]; simp [be4]; omega
theorem be4L_s {l : List Int} {i : Nat} (h : i < l.length) : be4L l (i + 1) = be4L l i ++ be4 (l.getD i 0) := by
  unfold be4L
  rw [List.take_succ_eq_append_getElem h, List.flatMap_append]
  simp [List.getD, h]

set_option maxRecDepth 100000 in
set_option maxHeartbeats 2000000 in
theorem put4 (σ : Nat → Nat) {H : Heap} (l : List Int) (m : Nat) (hlm : l.length = m) (hl0 : 0 < m) (hl : m ≤ 1000) (n : Nat) (ns : List Int) (hn : ns.length = n) (hbig : n ≤ 1000000) (hH : subR σ [(1, some ⟨102, 1, [.own 2 n 1]⟩), (2, some ⟨5, 1, (u8D ns).map X.d⟩)] H) (hinj : ((ks [(1, some ⟨102, 1, [.own 2 n 1]⟩), (2, some ⟨5, 1, (u8D ns).map X.d⟩)] ++ newL [(1, some ⟨102, 1, [.own 2 n 1]⟩), (2, some ⟨5, 1, (u8D ns).map X.d⟩)] [(1, some ⟨102, 1, [.own 90 (n + 4 * m) 1]⟩), (90, some ⟨5, 1, (u8D (ns ++ be4L l m)).map X.d⟩)]).map σ).Nodup) : CT Tryz.prog 116 ([.ptr 1 0, .d (.int .i64 4), .d (.sl m 1 (intsD l))].map (X.ren σ)) H ((ks [(1, some ⟨102, 1, [.own 2 n 1]⟩), (2, some ⟨5, 1, (u8D ns).map X.d⟩)]).map σ) ((newL [(1, some ⟨102, 1, [.own 2 n 1]⟩), (2, some ⟨5, 1, (u8D ns).map X.d⟩)] [(1, some ⟨102, 1, [.own 90 (n + 4 * m) 1]⟩), (90, some ⟨5, 1, (u8D (ns ++ be4L l m)).map X.d⟩)]).map σ) (updOf σ [(1, some ⟨102, 1, [.own 2 n 1]⟩), (2, some ⟨5, 1, (u8D ns).map X.d⟩)] [(1, some ⟨102, 1, [.own 90 (n + 4 * m) 1]⟩), (90, some ⟨5, 1, (u8D (ns ++ be4L l m)).map X.d⟩)]) (X.ren σ (.tup [])) := by
  refine CT_of (fn := Tryz.f116) (rl := .tup []) σ [(1, some ⟨102, 1, [.own 2 n 1]⟩), (2, some ⟨5, 1, (u8D ns).map X.d⟩)] [(1, some ⟨102, 1, [.own 90 (n + 4 * m) 1]⟩), (90, some ⟨5, 1, (u8D (ns ++ be4L l m)).map X.d⟩)] Tryz.func116 rfl (by simp [Tryz.ntmps116]) hH hinj (by simp [Heap.ids, X.idsL, X.ids, idsL_d, ks]) (by simp [Heap.ids, X.idsL, X.ids, idsL_d, ks]) (fun j o h1 h2 => by simp [ks] at h1; rcases h1 with rfl | rfl <;> simp [look] at h2 <;> subst h2 <;> simp) fun G hG => ?_
  rw [Tryz.ntmps116]
  change AW _ _ _ _ ⟨[(0, .ptr 1 0), (1, .d (.int .i64 4)), (2, .d (.sl m 1 (intsD l)))], [(1, some ⟨102, 1, [.own 2 n 1]⟩), (2, some ⟨5, 1, (u8D ns).map X.d⟩)], [1, 2]⟩ _
  refine aw_seq ?_
  refine aw_region_seq [⟨.d (.sl m 1 (intsD l)), [], [], []⟩, ⟨.d (.int .i64 ((m : Nat) : Int)), [], [], []⟩, ⟨.d (.int .i64 0), [], [], []⟩] (by kernel_rfl) (by kernel_rfl) (fun id h => hG id (by simp [ks] at h ⊢ <;> omega)) ?_ ?_
  · exact okY rfl (LT_move rfl rfl) <| okY rfl (LT_lenD rfl Tryz.underlying36 rfl) <| okY rfl (LT_move rfl rfl) <| okE
  change AW _ _ _ _ _ _
  refine aw_weak (weak_of [(0, .ptr 1 0), (1, .d (.int .i64 4)), (9, .d (.sl m 1 (intsD l))), (10, .d (.int .i64 ((m : Nat) : Int))), (11, .d (.int .i64 0))] [(1, some ⟨102, 1, [.own 2 n 1]⟩), (2, some ⟨5, 1, (u8D ns).map X.d⟩)] [1, 2] (sE rfl (sE rfl (sE rfl (sE rfl (sE rfl sE0))))) (sH rfl (sH rfl sH0)) (by simp only [Heap.ids, idsL_d, List.nil_append]; kernel_rfl)) ?_
  refine aw_block ?_
  refine aw_loopJ (fun q => match q with | 0 => ⟨[(0, .ptr 1 0), (1, .d (.int .i64 4)), (9, .d (.sl m 1 (intsD l))), (10, .d (.int .i64 ((m : Nat) : Int))), (11, .d (.int .i64 0))], [(1, some ⟨102, 1, [.own 2 n 1]⟩), (2, some ⟨5, 1, (u8D ns).map X.d⟩)], [1, 2]⟩ | i + 1 => ⟨[(0, .ptr 1 0), (1, .d (.int .i64 4)), (9, .d (.sl m 1 (intsD l))), (10, .d (.int .i64 ((m : Nat) : Int))), (11, .d (.int .i64 (((i + 1) : Nat) : Int)))], [(1, some ⟨102, 1, [.own 90 (n + 4 * (i + 1)) 1]⟩), (90, some ⟨5, 1, (u8D (ns ++ be4L l (i + 1))).map X.d⟩)], [1, 90]⟩) (fun q => q ≤ m) (fun q => m - q) 0 (by omega) ?_ ?_
  · exact weak_of _ _ _ (sE rfl (sE rfl (sE rfl (sE rfl (sE rfl sE0))))) (sH rfl (sH rfl sH0)) (by simp only [Heap.ids, idsL_d, List.nil_append]; kernel_rfl)
  intro q hJ0
  match q, hJ0 with
  | 0, hJ0 =>
    change AW _ _ _ _ ⟨[(0, .ptr 1 0), (1, .d (.int .i64 4)), (9, .d (.sl m 1 (intsD l))), (10, .d (.int .i64 ((m : Nat) : Int))), (11, .d (.int .i64 0))], [(1, some ⟨102, 1, [.own 2 n 1]⟩), (2, some ⟨5, 1, (u8D ns).map X.d⟩)], [1, 2]⟩ _
    refine aw_seq ?_
    refine aw_region_seq [⟨.d (.bool (decide ((0 : Int) < ((m : Nat) : Int)))), [], [], []⟩] (by kernel_rfl) (by kernel_rfl) (fun id h => hG id (by simp [ks] at h ⊢ <;> omega)) ?_ ?_
    · exact okY rfl (LT_cmp rfl rfl rfl rfl rfl) <| okE
    change AW _ _ _ _ _ _
    refine aw_weak (weak_of [(0, .ptr 1 0), (1, .d (.int .i64 4)), (9, .d (.sl m 1 (intsD l))), (10, .d (.int .i64 ((m : Nat) : Int))), (11, .d (.int .i64 0)), (12, .d (.bool (decide ((0 : Int) < ((m : Nat) : Int)))))] [(1, some ⟨102, 1, [.own 2 n 1]⟩), (2, some ⟨5, 1, (u8D ns).map X.d⟩)] [1, 2] (sE rfl (sE rfl (sE rfl (sE rfl (sE rfl (sE rfl sE0)))))) (sH rfl (sH rfl sH0)) (by simp only [Heap.ids, idsL_d, List.nil_append]; kernel_rfl)) ?_
    refine aw_seq ?_
    refine aw_cond (decide ((0 : Int) < ((m : Nat) : Int))) rfl (fun hb1 => ?_) (fun hb1 => ?_)
    ·
      replace hb1 := of_decide_eq_true hb1
      refine aw_skip ?_
      change AW _ _ _ _ _ _
      refine aw_weak (weak_of [(0, .ptr 1 0), (1, .d (.int .i64 4)), (9, .d (.sl m 1 (intsD l))), (10, .d (.int .i64 ((m : Nat) : Int))), (11, .d (.int .i64 0))] [(1, some ⟨102, 1, [.own 2 n 1]⟩), (2, some ⟨5, 1, (u8D ns).map X.d⟩)] [1, 2] (sE rfl (sE rfl (sE rfl (sE rfl (sE rfl sE0))))) (sH rfl (sH rfl sH0)) (by simp only [Heap.ids, idsL_d, List.nil_append]; kernel_rfl)) ?_
      refine aw_seq ?_
      refine aw_block ?_
      refine aw_seq ?_
      refine aw_region_seq [⟨.dptr [.int .i64 (l.getD 0 0)], [], [], []⟩, ⟨.d (.int .i64 (l.getD 0 0)), [], [], []⟩, ⟨.d (.int .i64 (l.getD 0 0)), [], [], []⟩] (by kernel_rfl) (by kernel_rfl) (fun id h => hG id (by simp [ks] at h ⊢ <;> omega)) ?_ ?_
      · exact okY rfl (LT_indexD rfl rfl rfl Tryz.underlying36 inf3 rfl (by omega) (by omega) (intsD_at' (by omega))) <| okY rfl (LT_loadD 1 rfl rfl Tryz.underlying3 inf3 (by simp) (.inr ⟨rfl, rfl, rfl⟩)) <| okY rfl (LT_assign rfl rfl) <| okE
      change AW _ _ _ _ _ _
      refine aw_weak (weak_of [(0, .ptr 1 0), (1, .d (.int .i64 4)), (9, .d (.sl m 1 (intsD l))), (10, .d (.int .i64 ((m : Nat) : Int))), (11, .d (.int .i64 0)), (7, .d (.int .i64 (l.getD 0 0)))] [(1, some ⟨102, 1, [.own 2 n 1]⟩), (2, some ⟨5, 1, (u8D ns).map X.d⟩)] [1, 2] (sE rfl (sE rfl (sE rfl (sE rfl (sE rfl (sE rfl sE0)))))) (sH rfl (sH rfl sH0)) (by simp only [Heap.ids, idsL_d, List.nil_append]; kernel_rfl)) ?_
      refine aw_seq ?_
      refine aw_region_seq [⟨.d (.int .i64 4), [], [], []⟩, ⟨.d (.int .i64 3), [], [], []⟩, ⟨.d (.int .i64 3), [], [], []⟩] (by kernel_rfl) (by kernel_rfl) (fun id h => hG id (by simp [ks] at h ⊢ <;> omega)) ?_ ?_
      · exact okY rfl (LT_move rfl rfl) <| okY rfl (LT_sub rfl rfl rfl (by decide)) <| okY rfl (LT_assign rfl rfl) <| okE
      change AW _ _ _ _ _ _
      refine aw_weak (weak_of [(0, .ptr 1 0), (1, .d (.int .i64 4)), (9, .d (.sl m 1 (intsD l))), (10, .d (.int .i64 ((m : Nat) : Int))), (11, .d (.int .i64 0)), (7, .d (.int .i64 (l.getD 0 0))), (8, .d (.int .i64 3))] [(1, some ⟨102, 1, [.own 2 n 1]⟩), (2, some ⟨5, 1, (u8D ns).map X.d⟩)] [1, 2] (sE rfl (sE rfl (sE rfl (sE rfl (sE rfl (sE rfl (sE rfl sE0))))))) (sH rfl (sH rfl sH0)) (by simp only [Heap.ids, idsL_d, List.nil_append]; kernel_rfl)) ?_
      refine aw_block ?_
      refine aw_rounds 5 ?_
      change AW _ _ _ _ _ _
      refine aw_seq ?_
      refine aw_seq ?_
      refine aw_region_seq [⟨.d (.int .i64 3), [], [], []⟩, ⟨.d (.bool true), [], [], []⟩] (by kernel_rfl) (by kernel_rfl) (fun id h => hG id (by simp [ks] at h ⊢ <;> omega)) ?_ ?_
      · exact okY rfl (LT_move rfl rfl) <| okY rfl (LT_cmp rfl rfl rfl rfl rfl) <| okE
      change AW _ _ _ _ _ _
      refine aw_weak (weak_of [(0, .ptr 1 0), (1, .d (.int .i64 4)), (9, .d (.sl m 1 (intsD l))), (10, .d (.int .i64 ((m : Nat) : Int))), (11, .d (.int .i64 0)), (7, .d (.int .i64 (l.getD 0 0))), (8, .d (.int .i64 3)), (18, .d (.bool true))] [(1, some ⟨102, 1, [.own 2 n 1]⟩), (2, some ⟨5, 1, (u8D ns).map X.d⟩)] [1, 2] (sE rfl (sE rfl (sE rfl (sE rfl (sE rfl (sE rfl (sE rfl (sE rfl sE0)))))))) (sH rfl (sH rfl sH0)) (by simp only [Heap.ids, idsL_d, List.nil_append]; kernel_rfl)) ?_
      refine aw_condT rfl ?_
      refine aw_skip ?_
      change AW _ _ _ _ _ _
      refine aw_weak (weak_of [(0, .ptr 1 0), (1, .d (.int .i64 4)), (9, .d (.sl m 1 (intsD l))), (10, .d (.int .i64 ((m : Nat) : Int))), (11, .d (.int .i64 0)), (7, .d (.int .i64 (l.getD 0 0))), (8, .d (.int .i64 3))] [(1, some ⟨102, 1, [.own 2 n 1]⟩), (2, some ⟨5, 1, (u8D ns).map X.d⟩)] [1, 2] (sE rfl (sE rfl (sE rfl (sE rfl (sE rfl (sE rfl (sE rfl sE0))))))) (sH rfl (sH rfl sH0)) (by simp only [Heap.ids, idsL_d, List.nil_append]; kernel_rfl)) ?_
      refine aw_seq ?_
      refine aw_block ?_
      refine aw_region_any rfl [⟨.ptr 1 0, [], [], []⟩, ⟨.ptr 1 0, [], [], []⟩, ⟨.ptr 1 0, [], [], []⟩, ⟨.ptr 1 0, [], [], []⟩, ⟨.own 2 n 1, [], [], [1]⟩, ⟨.d (.int .i64 (l.getD 0 0)), [], [], []⟩, ⟨.d (.int .i64 3), [], [], []⟩, ⟨.d (.int .i64 24), [], [], []⟩, ⟨.d (.int .i64 ((l.getD 0 0) / 16777216)), [], [], []⟩, ⟨.d (.int .u8 (((l.getD 0 0) / 16777216) % 256)), [], [], []⟩, ⟨.d (.sl 1 1 ([(((l.getD 0 0) / 16777216) % 256)].map (.int .u8))), [], [], []⟩, ⟨.own 3 (n + 1) 1, [(3, some ⟨5, 1, (u8D (ns ++ [(l.getD 0 0) / 16777216 % 256])).map X.d⟩), (2, none)], [3], [2]⟩, ⟨.ptr 1 0, [], [], []⟩, ⟨.ptr 1 0, [], [], []⟩, ⟨.tup [], [(1, some ⟨102, 1, [.own 3 (n + 1) 1]⟩)], [], [1]⟩] (by kernel_rfl) (by kernel_rfl) (by kernel_rfl) (fun id h => hG id (by simp [ks] at h ⊢ <;> omega)) ?_ ?_
      · exact okY rfl (LT_move rfl rfl) <| okY rfl (LT_move rfl rfl) <| okY rfl (LT_nilCheck rfl rfl) <| okY rfl (LT_fieldAddr rfl rfl Tryz.underlying100 rfl inf23 (by decide) _ rfl) <| okY rfl (LT_load 1 rfl rfl rfl (List.Mem.head _) Tryz.underlying23 inf23 (by simp) (.inr ⟨rfl, rfl, rfl⟩)) <| okY rfl (LT_move rfl rfl) <| okY rfl (LT_move rfl rfl) <| okY rfl (LT_mul rfl rfl rfl (by decide)) <| okY rfl (LT_shift rfl (.inr rfl) rfl rfl (shrI (l.getD 0 0) 24 16777216 (by decide) (by decide))) <| okY rfl (LT_conv rfl Tryz.underlying3 Tryz.underlying5 rfl (IntKind.wrap_u8 _)) <| okY rfl (LT_buildSliceD [.d (.int .u8 (((l.getD 0 0) / 16777216) % 256))] ([(((l.getD 0 0) / 16777216) % 256)].map (.int .u8)) rfl Tryz.underlying23 inf5 rfl rfl 1 rfl (by decide) (by decide) rfl rfl (by decide) rfl (by kernel_rfl) rfl) <| okY rfl (LT_append 3 rfl Tryz.underlying23 inf5 rfl rfl rfl (by decide) rfl rfl rfl (List.Mem.head _) (List.Mem.head _) rfl rfl (by show _ = n * 1; simp [u8D, be4L_len (show 0 ≤ l.length by omega)]; omega) (by omega) (by omega) (by show (_ + _) * 1 ≤ _; omega) ((u8D (ns ++ [(l.getD 0 0) / 16777216 % 256])).map X.d) (by simp [u8D]) (n + 1) rfl) <| okY rfl (LT_nilCheck rfl rfl) <| okY rfl (LT_fieldAddr rfl rfl Tryz.underlying100 rfl inf23 (by decide) _ rfl) <| okY rfl (LT_store (ob := ⟨102, 1, [.own 2 n 1]⟩) (x := .own 3 (n + 1) 1) rfl rfl rfl (List.Mem.head _) inf23 rfl rfl rfl (by simp [X.cells]) _ rfl) <| okE
      change AW _ _ _ _ _ _
      refine aw_weak (weak_of [(0, .ptr 1 0), (1, .d (.int .i64 4)), (9, .d (.sl m 1 (intsD l))), (10, .d (.int .i64 ((m : Nat) : Int))), (11, .d (.int .i64 0)), (7, .d (.int .i64 (l.getD 0 0))), (8, .d (.int .i64 3))] [(1, some ⟨102, 1, [.own 3 (n + 1) 1]⟩), (3, some ⟨5, 1, (u8D (ns ++ [(l.getD 0 0) / 16777216 % 256])).map X.d⟩)] [1, 3] (sE rfl (sE rfl (sE rfl (sE rfl (sE rfl (sE rfl (sE rfl sE0))))))) (sH rfl (sH rfl sH0)) (by simp only [Heap.ids, idsL_d, List.nil_append]; kernel_rfl)) ?_
      refine aw_region_seq [⟨.d (.int .i64 3), [], [], []⟩, ⟨.d (.int .i64 2), [], [], []⟩, ⟨.d (.int .i64 2), [], [], []⟩] (by kernel_rfl) (by kernel_rfl) (fun id h => hG id (by simp [ks] at h ⊢ <;> omega)) ?_ ?_
      · exact okY rfl (LT_move rfl rfl) <| okY rfl (LT_sub rfl rfl rfl (by decide)) <| okY rfl (LT_assign rfl rfl) <| okE
      change AW _ _ _ _ _ _
      refine aw_weak (weak_of [(0, .ptr 1 0), (1, .d (.int .i64 4)), (9, .d (.sl m 1 (intsD l))), (10, .d (.int .i64 ((m : Nat) : Int))), (11, .d (.int .i64 0)), (7, .d (.int .i64 (l.getD 0 0))), (8, .d (.int .i64 2))] [(1, some ⟨102, 1, [.own 3 (n + 1) 1]⟩), (3, some ⟨5, 1, (u8D (ns ++ [(l.getD 0 0) / 16777216 % 256])).map X.d⟩)] [1, 3] (sE rfl (sE rfl (sE rfl (sE rfl (sE rfl (sE rfl (sE rfl sE0))))))) (sH rfl (sH rfl sH0)) (by simp only [Heap.ids, idsL_d, List.nil_append]; kernel_rfl)) ?_
      refine aw_seq ?_
      refine aw_seq ?_
      refine aw_region_seq [⟨.d (.int .i64 2), [], [], []⟩, ⟨.d (.bool true), [], [], []⟩] (by kernel_rfl) (by kernel_rfl) (fun id h => hG id (by simp [ks] at h ⊢ <;> omega)) ?_ ?_
      · exact okY rfl (LT_move rfl rfl) <| okY rfl (LT_cmp rfl rfl rfl rfl rfl) <| okE
      change AW _ _ _ _ _ _
      refine aw_weak (weak_of [(0, .ptr 1 0), (1, .d (.int .i64 4)), (9, .d (.sl m 1 (intsD l))), (10, .d (.int .i64 ((m : Nat) : Int))), (11, .d (.int .i64 0)), (7, .d (.int .i64 (l.getD 0 0))), (8, .d (.int .i64 2)), (18, .d (.bool true))] [(1, some ⟨102, 1, [.own 3 (n + 1) 1]⟩), (3, some ⟨5, 1, (u8D (ns ++ [(l.getD 0 0) / 16777216 % 256])).map X.d⟩)] [1, 3] (sE rfl (sE rfl (sE rfl (sE rfl (sE rfl (sE rfl (sE rfl (sE rfl sE0)))))))) (sH rfl (sH rfl sH0)) (by simp only [Heap.ids, idsL_d, List.nil_append]; kernel_rfl)) ?_
      refine aw_condT rfl ?_
      refine aw_skip ?_
      change AW _ _ _ _ _ _
      refine aw_weak (weak_of [(0, .ptr 1 0), (1, .d (.int .i64 4)), (9, .d (.sl m 1 (intsD l))), (10, .d (.int .i64 ((m : Nat) : Int))), (11, .d (.int .i64 0)), (7, .d (.int .i64 (l.getD 0 0))), (8, .d (.int .i64 2))] [(1, some ⟨102, 1, [.own 3 (n + 1) 1]⟩), (3, some ⟨5, 1, (u8D (ns ++ [(l.getD 0 0) / 16777216 % 256])).map X.d⟩)] [1, 3] (sE rfl (sE rfl (sE rfl (sE rfl (sE rfl (sE rfl (sE rfl sE0))))))) (sH rfl (sH rfl sH0)) (by simp only [Heap.ids, idsL_d, List.nil_append]; kernel_rfl)) ?_
      refine aw_seq ?_
      refine aw_block ?_
      refine aw_region_any rfl [⟨.ptr 1 0, [], [], []⟩, ⟨.ptr 1 0, [], [], []⟩, ⟨.ptr 1 0, [], [], []⟩, ⟨.ptr 1 0, [], [], []⟩, ⟨.own 3 (n + 1) 1, [], [], [1]⟩, ⟨.d (.int .i64 (l.getD 0 0)), [], [], []⟩, ⟨.d (.int .i64 2), [], [], []⟩, ⟨.d (.int .i64 16), [], [], []⟩, ⟨.d (.int .i64 ((l.getD 0 0) / 65536)), [], [], []⟩, ⟨.d (.int .u8 (((l.getD 0 0) / 65536) % 256)), [], [], []⟩, ⟨.d (.sl 1 1 ([(((l.getD 0 0) / 65536) % 256)].map (.int .u8))), [], [], []⟩, ⟨.own 4 ((n + 1) + 1) 1, [(4, some ⟨5, 1, (u8D (ns ++ [(l.getD 0 0) / 16777216 % 256, (l.getD 0 0) / 65536 % 256])).map X.d⟩), (3, none)], [4], [3]⟩, ⟨.ptr 1 0, [], [], []⟩, ⟨.ptr 1 0, [], [], []⟩, ⟨.tup [], [(1, some ⟨102, 1, [.own 4 ((n + 1) + 1) 1]⟩)], [], [1]⟩] (by kernel_rfl) (by kernel_rfl) (by kernel_rfl) (fun id h => hG id (by simp [ks] at h ⊢ <;> omega)) ?_ ?_
      · exact okY rfl (LT_move rfl rfl) <| okY rfl (LT_move rfl rfl) <| okY rfl (LT_nilCheck rfl rfl) <| okY rfl (LT_fieldAddr rfl rfl Tryz.underlying100 rfl inf23 (by decide) _ rfl) <| okY rfl (LT_load 1 rfl rfl rfl (List.Mem.head _) Tryz.underlying23 inf23 (by simp) (.inr ⟨rfl, rfl, rfl⟩)) <| okY rfl (LT_move rfl rfl) <| okY rfl (LT_move rfl rfl) <| okY rfl (LT_mul rfl rfl rfl (by decide)) <| okY rfl (LT_shift rfl (.inr rfl) rfl rfl (shrI (l.getD 0 0) 16 65536 (by decide) (by decide))) <| okY rfl (LT_conv rfl Tryz.underlying3 Tryz.underlying5 rfl (IntKind.wrap_u8 _)) <| okY rfl (LT_buildSliceD [.d (.int .u8 (((l.getD 0 0) / 65536) % 256))] ([(((l.getD 0 0) / 65536) % 256)].map (.int .u8)) rfl Tryz.underlying23 inf5 rfl rfl 1 rfl (by decide) (by decide) rfl rfl (by decide) rfl (by kernel_rfl) rfl) <| okY rfl (LT_append 4 rfl Tryz.underlying23 inf5 rfl rfl rfl (by decide) rfl rfl rfl (List.Mem.head _) (List.Mem.head _) rfl rfl (by show _ = (n + 1) * 1; simp [u8D, be4L_len (show 0 ≤ l.length by omega)]; omega) (by omega) (by omega) (by show (_ + _) * 1 ≤ _; omega) ((u8D (ns ++ [(l.getD 0 0) / 16777216 % 256, (l.getD 0 0) / 65536 % 256])).map X.d) (by simp [u8D]) ((n + 1) + 1) rfl) <| okY rfl (LT_nilCheck rfl rfl) <| okY rfl (LT_fieldAddr rfl rfl Tryz.underlying100 rfl inf23 (by decide) _ rfl) <| okY rfl (LT_store (ob := ⟨102, 1, [.own 3 (n + 1) 1]⟩) (x := .own 4 ((n + 1) + 1) 1) rfl rfl rfl (List.Mem.head _) inf23 rfl rfl rfl (by simp [X.cells]) _ rfl) <| okE
      change AW _ _ _ _ _ _
      refine aw_weak (weak_of [(0, .ptr 1 0), (1, .d (.int .i64 4)), (9, .d (.sl m 1 (intsD l))), (10, .d (.int .i64 ((m : Nat) : Int))), (11, .d (.int .i64 0)), (7, .d (.int .i64 (l.getD 0 0))), (8, .d (.int .i64 2))] [(1, some ⟨102, 1, [.own 4 ((n + 1) + 1) 1]⟩), (4, some ⟨5, 1, (u8D (ns ++ [(l.getD 0 0) / 16777216 % 256, (l.getD 0 0) / 65536 % 256])).map X.d⟩)] [1, 4] (sE rfl (sE rfl (sE rfl (sE rfl (sE rfl (sE rfl (sE rfl sE0))))))) (sH rfl (sH rfl sH0)) (by simp only [Heap.ids, idsL_d, List.nil_append]; kernel_rfl)) ?_
      refine aw_region_seq [⟨.d (.int .i64 2), [], [], []⟩, ⟨.d (.int .i64 1), [], [], []⟩, ⟨.d (.int .i64 1), [], [], []⟩] (by kernel_rfl) (by kernel_rfl) (fun id h => hG id (by simp [ks] at h ⊢ <;> omega)) ?_ ?_
      · exact okY rfl (LT_move rfl rfl) <| okY rfl (LT_sub rfl rfl rfl (by decide)) <| okY rfl (LT_assign rfl rfl) <| okE
      change AW _ _ _ _ _ _
      refine aw_weak (weak_of [(0, .ptr 1 0), (1, .d (.int .i64 4)), (9, .d (.sl m 1 (intsD l))), (10, .d (.int .i64 ((m : Nat) : Int))), (11, .d (.int .i64 0)), (7, .d (.int .i64 (l.getD 0 0))), (8, .d (.int .i64 1))] [(1, some ⟨102, 1, [.own 4 ((n + 1) + 1) 1]⟩), (4, some ⟨5, 1, (u8D (ns ++ [(l.getD 0 0) / 16777216 % 256, (l.getD 0 0) / 65536 % 256])).map X.d⟩)] [1, 4] (sE rfl (sE rfl (sE rfl (sE rfl (sE rfl (sE rfl (sE rfl sE0))))))) (sH rfl (sH rfl sH0)) (by simp only [Heap.ids, idsL_d, List.nil_append]; kernel_rfl)) ?_
      refine aw_seq ?_
      refine aw_seq ?_
      refine aw_region_seq [⟨.d (.int .i64 1), [], [], []⟩, ⟨.d (.bool true), [], [], []⟩] (by kernel_rfl) (by kernel_rfl) (fun id h => hG id (by simp [ks] at h ⊢ <;> omega)) ?_ ?_
      · exact okY rfl (LT_move rfl rfl) <| okY rfl (LT_cmp rfl rfl rfl rfl rfl) <| okE
      change AW _ _ _ _ _ _
      refine aw_weak (weak_of [(0, .ptr 1 0), (1, .d (.int .i64 4)), (9, .d (.sl m 1 (intsD l))), (10, .d (.int .i64 ((m : Nat) : Int))), (11, .d (.int .i64 0)), (7, .d (.int .i64 (l.getD 0 0))), (8, .d (.int .i64 1)), (18, .d (.bool true))] [(1, some ⟨102, 1, [.own 4 ((n + 1) + 1) 1]⟩), (4, some ⟨5, 1, (u8D (ns ++ [(l.getD 0 0) / 16777216 % 256, (l.getD 0 0) / 65536 % 256])).map X.d⟩)] [1, 4] (sE rfl (sE rfl (sE rfl (sE rfl (sE rfl (sE rfl (sE rfl (sE rfl sE0)))))))) (sH rfl (sH rfl sH0)) (by simp only [Heap.ids, idsL_d, List.nil_append]; kernel_rfl)) ?_
      refine aw_condT rfl ?_
      refine aw_skip ?_
      change AW _ _ _ _ _ _
      refine aw_weak (weak_of [(0, .ptr 1 0), (1, .d (.int .i64 4)), (9, .d (.sl m 1 (intsD l))), (10, .d (.int .i64 ((m : Nat) : Int))), (11, .d (.int .i64 0)), (7, .d (.int .i64 (l.getD 0 0))), (8, .d (.int .i64 1))] [(1, some ⟨102, 1, [.own 4 ((n + 1) + 1) 1]⟩), (4, some ⟨5, 1, (u8D (ns ++ [(l.getD 0 0) / 16777216 % 256, (l.getD 0 0) / 65536 % 256])).map X.d⟩)] [1, 4] (sE rfl (sE rfl (sE rfl (sE rfl (sE rfl (sE rfl (sE rfl sE0))))))) (sH rfl (sH rfl sH0)) (by simp only [Heap.ids, idsL_d, List.nil_append]; kernel_rfl)) ?_
      refine aw_seq ?_
      refine aw_block ?_
      refine aw_region_any rfl [⟨.ptr 1 0, [], [], []⟩, ⟨.ptr 1 0, [], [], []⟩, ⟨.ptr 1 0, [], [], []⟩, ⟨.ptr 1 0, [], [], []⟩, ⟨.own 4 ((n + 1) + 1) 1, [], [], [1]⟩, ⟨.d (.int .i64 (l.getD 0 0)), [], [], []⟩, ⟨.d (.int .i64 1), [], [], []⟩, ⟨.d (.int .i64 8), [], [], []⟩, ⟨.d (.int .i64 ((l.getD 0 0) / 256)), [], [], []⟩, ⟨.d (.int .u8 (((l.getD 0 0) / 256) % 256)), [], [], []⟩, ⟨.d (.sl 1 1 ([(((l.getD 0 0) / 256) % 256)].map (.int .u8))), [], [], []⟩, ⟨.own 5 (((n + 1) + 1) + 1) 1, [(5, some ⟨5, 1, (u8D (ns ++ [(l.getD 0 0) / 16777216 % 256, (l.getD 0 0) / 65536 % 256, (l.getD 0 0) / 256 % 256])).map X.d⟩), (4, none)], [5], [4]⟩, ⟨.ptr 1 0, [], [], []⟩, ⟨.ptr 1 0, [], [], []⟩, ⟨.tup [], [(1, some ⟨102, 1, [.own 5 (((n + 1) + 1) + 1) 1]⟩)], [], [1]⟩] (by kernel_rfl) (by kernel_rfl) (by kernel_rfl) (fun id h => hG id (by simp [ks] at h ⊢ <;> omega)) ?_ ?_
      · exact okY rfl (LT_move rfl rfl) <| okY rfl (LT_move rfl rfl) <| okY rfl (LT_nilCheck rfl rfl) <| okY rfl (LT_fieldAddr rfl rfl Tryz.underlying100 rfl inf23 (by decide) _ rfl) <| okY rfl (LT_load 1 rfl rfl rfl (List.Mem.head _) Tryz.underlying23 inf23 (by simp) (.inr ⟨rfl, rfl, rfl⟩)) <| okY rfl (LT_move rfl rfl) <| okY rfl (LT_move rfl rfl) <| okY rfl (LT_mul rfl rfl rfl (by decide)) <| okY rfl (LT_shift rfl (.inr rfl) rfl rfl (shrI (l.getD 0 0) 8 256 (by decide) (by decide))) <| okY rfl (LT_conv rfl Tryz.underlying3 Tryz.underlying5 rfl (IntKind.wrap_u8 _)) <| okY rfl (LT_buildSliceD [.d (.int .u8 (((l.getD 0 0) / 256) % 256))] ([(((l.getD 0 0) / 256) % 256)].map (.int .u8)) rfl Tryz.underlying23 inf5 rfl rfl 1 rfl (by decide) (by decide) rfl rfl (by decide) rfl (by kernel_rfl) rfl) <| okY rfl (LT_append 5 rfl Tryz.underlying23 inf5 rfl rfl rfl (by decide) rfl rfl rfl (List.Mem.head _) (List.Mem.head _) rfl rfl (by show _ = ((n + 1) + 1) * 1; simp [u8D, be4L_len (show 0 ≤ l.length by omega)]; omega) (by omega) (by omega) (by show (_ + _) * 1 ≤ _; omega) ((u8D (ns ++ [(l.getD 0 0) / 16777216 % 256, (l.getD 0 0) / 65536 % 256, (l.getD 0 0) / 256 % 256])).map X.d) (by simp [u8D]) (((n + 1) + 1) + 1) rfl) <| okY rfl (LT_nilCheck rfl rfl) <| okY rfl (LT_fieldAddr rfl rfl Tryz.underlying100 rfl inf23 (by decide) _ rfl) <| okY rfl (LT_store (ob := ⟨102, 1, [.own 4 ((n + 1) + 1) 1]⟩) (x := .own 5 (((n + 1) + 1) + 1) 1) rfl rfl rfl (List.Mem.head _) inf23 rfl rfl rfl (by simp [X.cells]) _ rfl) <| okE
      change AW _ _ _ _ _ _
      refine aw_weak (weak_of [(0, .ptr 1 0), (1, .d (.int .i64 4)), (9, .d (.sl m 1 (intsD l))), (10, .d (.int .i64 ((m : Nat) : Int))), (11, .d (.int .i64 0)), (7, .d (.int .i64 (l.getD 0 0))), (8, .d (.int .i64 1))] [(1, some ⟨102, 1, [.own 5 (((n + 1) + 1) + 1) 1]⟩), (5, some ⟨5, 1, (u8D (ns ++ [(l.getD 0 0) / 16777216 % 256, (l.getD 0 0) / 65536 % 256, (l.getD 0 0) / 256 % 256])).map X.d⟩)] [1, 5] (sE rfl (sE rfl (sE rfl (sE rfl (sE rfl (sE rfl (sE rfl sE0))))))) (sH rfl (sH rfl sH0)) (by simp only [Heap.ids, idsL_d, List.nil_append]; kernel_rfl)) ?_
      refine aw_region_seq [⟨.d (.int .i64 1), [], [], []⟩, ⟨.d (.int .i64 0), [], [], []⟩, ⟨.d (.int .i64 0), [], [], []⟩] (by kernel_rfl) (by kernel_rfl) (fun id h => hG id (by simp [ks] at h ⊢ <;> omega)) ?_ ?_
      · exact okY rfl (LT_move rfl rfl) <| okY rfl (LT_sub rfl rfl rfl (by decide)) <| okY rfl (LT_assign rfl rfl) <| okE
      change AW _ _ _ _ _ _
      refine aw_weak (weak_of [(0, .ptr 1 0), (1, .d (.int .i64 4)), (9, .d (.sl m 1 (intsD l))), (10, .d (.int .i64 ((m : Nat) : Int))), (11, .d (.int .i64 0)), (7, .d (.int .i64 (l.getD 0 0))), (8, .d (.int .i64 0))] [(1, some ⟨102, 1, [.own 5 (((n + 1) + 1) + 1) 1]⟩), (5, some ⟨5, 1, (u8D (ns ++ [(l.getD 0 0) / 16777216 % 256, (l.getD 0 0) / 65536 % 256, (l.getD 0 0) / 256 % 256])).map X.d⟩)] [1, 5] (sE rfl (sE rfl (sE rfl (sE rfl (sE rfl (sE rfl (sE rfl sE0))))))) (sH rfl (sH rfl sH0)) (by simp only [Heap.ids, idsL_d, List.nil_append]; kernel_rfl)) ?_
      refine aw_seq ?_
      refine aw_seq ?_
      refine aw_region_seq [⟨.d (.int .i64 0), [], [], []⟩, ⟨.d (.bool true), [], [], []⟩] (by kernel_rfl) (by kernel_rfl) (fun id h => hG id (by simp [ks] at h ⊢ <;> omega)) ?_ ?_
      · exact okY rfl (LT_move rfl rfl) <| okY rfl (LT_cmp rfl rfl rfl rfl rfl) <| okE
      change AW _ _ _ _ _ _
      refine aw_weak (weak_of [(0, .ptr 1 0), (1, .d (.int .i64 4)), (9, .d (.sl m 1 (intsD l))), (10, .d (.int .i64 ((m : Nat) : Int))), (11, .d (.int .i64 0)), (7, .d (.int .i64 (l.getD 0 0))), (8, .d (.int .i64 0)), (18, .d (.bool true))] [(1, some ⟨102, 1, [.own 5 (((n + 1) + 1) + 1) 1]⟩), (5, some ⟨5, 1, (u8D (ns ++ [(l.getD 0 0) / 16777216 % 256, (l.getD 0 0) / 65536 % 256, (l.getD 0 0) / 256 % 256])).map X.d⟩)] [1, 5] (sE rfl (sE rfl (sE rfl (sE rfl (sE rfl (sE rfl (sE rfl (sE rfl sE0)))))))) (sH rfl (sH rfl sH0)) (by simp only [Heap.ids, idsL_d, List.nil_append]; kernel_rfl)) ?_
      refine aw_condT rfl ?_
      refine aw_skip ?_
      change AW _ _ _ _ _ _
      refine aw_weak (weak_of [(0, .ptr 1 0), (1, .d (.int .i64 4)), (9, .d (.sl m 1 (intsD l))), (10, .d (.int .i64 ((m : Nat) : Int))), (11, .d (.int .i64 0)), (7, .d (.int .i64 (l.getD 0 0))), (8, .d (.int .i64 0))] [(1, some ⟨102, 1, [.own 5 (((n + 1) + 1) + 1) 1]⟩), (5, some ⟨5, 1, (u8D (ns ++ [(l.getD 0 0) / 16777216 % 256, (l.getD 0 0) / 65536 % 256, (l.getD 0 0) / 256 % 256])).map X.d⟩)] [1, 5] (sE rfl (sE rfl (sE rfl (sE rfl (sE rfl (sE rfl (sE rfl sE0))))))) (sH rfl (sH rfl sH0)) (by simp only [Heap.ids, idsL_d, List.nil_append]; kernel_rfl)) ?_
      refine aw_seq ?_
      refine aw_block ?_
      refine aw_region_any rfl [⟨.ptr 1 0, [], [], []⟩, ⟨.ptr 1 0, [], [], []⟩, ⟨.ptr 1 0, [], [], []⟩, ⟨.ptr 1 0, [], [], []⟩, ⟨.own 5 (((n + 1) + 1) + 1) 1, [], [], [1]⟩, ⟨.d (.int .i64 (l.getD 0 0)), [], [], []⟩, ⟨.d (.int .i64 0), [], [], []⟩, ⟨.d (.int .i64 0), [], [], []⟩, ⟨.d (.int .i64 ((l.getD 0 0) / 1)), [], [], []⟩, ⟨.d (.int .u8 (((l.getD 0 0) / 1) % 256)), [], [], []⟩, ⟨.d (.sl 1 1 ([(((l.getD 0 0) / 1) % 256)].map (.int .u8))), [], [], []⟩, ⟨.own 6 ((((n + 1) + 1) + 1) + 1) 1, [(6, some ⟨5, 1, (u8D (ns ++ [(l.getD 0 0) / 16777216 % 256, (l.getD 0 0) / 65536 % 256, (l.getD 0 0) / 256 % 256, (l.getD 0 0) / 1 % 256])).map X.d⟩), (5, none)], [6], [5]⟩, ⟨.ptr 1 0, [], [], []⟩, ⟨.ptr 1 0, [], [], []⟩, ⟨.tup [], [(1, some ⟨102, 1, [.own 6 ((((n + 1) + 1) + 1) + 1) 1]⟩)], [], [1]⟩] (by kernel_rfl) (by kernel_rfl) (by kernel_rfl) (fun id h => hG id (by simp [ks] at h ⊢ <;> omega)) ?_ ?_
      · exact okY rfl (LT_move rfl rfl) <| okY rfl (LT_move rfl rfl) <| okY rfl (LT_nilCheck rfl rfl) <| okY rfl (LT_fieldAddr rfl rfl Tryz.underlying100 rfl inf23 (by decide) _ rfl) <| okY rfl (LT_load 1 rfl rfl rfl (List.Mem.head _) Tryz.underlying23 inf23 (by simp) (.inr ⟨rfl, rfl, rfl⟩)) <| okY rfl (LT_move rfl rfl) <| okY rfl (LT_move rfl rfl) <| okY rfl (LT_mul rfl rfl rfl (by decide)) <| okY rfl (LT_shift rfl (.inr rfl) rfl rfl (shrI (l.getD 0 0) 0 1 (by decide) (by decide))) <| okY rfl (LT_conv rfl Tryz.underlying3 Tryz.underlying5 rfl (IntKind.wrap_u8 _)) <| okY rfl (LT_buildSliceD [.d (.int .u8 (((l.getD 0 0) / 1) % 256))] ([(((l.getD 0 0) / 1) % 256)].map (.int .u8)) rfl Tryz.underlying23 inf5 rfl rfl 1 rfl (by decide) (by decide) rfl rfl (by decide) rfl (by kernel_rfl) rfl) <| okY rfl (LT_append 6 rfl Tryz.underlying23 inf5 rfl rfl rfl (by decide) rfl rfl rfl (List.Mem.head _) (List.Mem.head _) rfl rfl (by show _ = (((n + 1) + 1) + 1) * 1; simp [u8D, be4L_len (show 0 ≤ l.length by omega)]; omega) (by omega) (by omega) (by show (_ + _) * 1 ≤ _; omega) ((u8D (ns ++ [(l.getD 0 0) / 16777216 % 256, (l.getD 0 0) / 65536 % 256, (l.getD 0 0) / 256 % 256, (l.getD 0 0) / 1 % 256])).map X.d) (by simp [u8D]) ((((n + 1) + 1) + 1) + 1) rfl) <| okY rfl (LT_nilCheck rfl rfl) <| okY rfl (LT_fieldAddr rfl rfl Tryz.underlying100 rfl inf23 (by decide) _ rfl) <| okY rfl (LT_store (ob := ⟨102, 1, [.own 5 (((n + 1) + 1) + 1) 1]⟩) (x := .own 6 ((((n + 1) + 1) + 1) + 1) 1) rfl rfl rfl (List.Mem.head _) inf23 rfl rfl rfl (by simp [X.cells]) _ rfl) <| okE
      change AW _ _ _ _ _ _
      refine aw_weak (weak_of [(0, .ptr 1 0), (1, .d (.int .i64 4)), (9, .d (.sl m 1 (intsD l))), (10, .d (.int .i64 ((m : Nat) : Int))), (11, .d (.int .i64 0)), (7, .d (.int .i64 (l.getD 0 0))), (8, .d (.int .i64 0))] [(1, some ⟨102, 1, [.own 6 ((((n + 1) + 1) + 1) + 1) 1]⟩), (6, some ⟨5, 1, (u8D (ns ++ [(l.getD 0 0) / 16777216 % 256, (l.getD 0 0) / 65536 % 256, (l.getD 0 0) / 256 % 256, (l.getD 0 0) / 1 % 256])).map X.d⟩)] [1, 6] (sE rfl (sE rfl (sE rfl (sE rfl (sE rfl (sE rfl (sE rfl sE0))))))) (sH rfl (sH rfl sH0)) (by simp only [Heap.ids, idsL_d, List.nil_append]; kernel_rfl)) ?_
      refine aw_region_seq [⟨.d (.int .i64 0), [], [], []⟩, ⟨.d (.int .i64 (-1)), [], [], []⟩, ⟨.d (.int .i64 (-1)), [], [], []⟩] (by kernel_rfl) (by kernel_rfl) (fun id h => hG id (by simp [ks] at h ⊢ <;> omega)) ?_ ?_
      · exact okY rfl (LT_move rfl rfl) <| okY rfl (LT_sub rfl rfl rfl (by decide)) <| okY rfl (LT_assign rfl rfl) <| okE
      change AW _ _ _ _ _ _
      refine aw_weak (weak_of [(0, .ptr 1 0), (1, .d (.int .i64 4)), (9, .d (.sl m 1 (intsD l))), (10, .d (.int .i64 ((m : Nat) : Int))), (11, .d (.int .i64 0)), (7, .d (.int .i64 (l.getD 0 0))), (8, .d (.int .i64 (-1)))] [(1, some ⟨102, 1, [.own 6 ((((n + 1) + 1) + 1) + 1) 1]⟩), (6, some ⟨5, 1, (u8D (ns ++ [(l.getD 0 0) / 16777216 % 256, (l.getD 0 0) / 65536 % 256, (l.getD 0 0) / 256 % 256, (l.getD 0 0) / 1 % 256])).map X.d⟩)] [1, 6] (sE rfl (sE rfl (sE rfl (sE rfl (sE rfl (sE rfl (sE rfl sE0))))))) (sH rfl (sH rfl sH0)) (by simp only [Heap.ids, idsL_d, List.nil_append]; kernel_rfl)) ?_
      refine aw_seq ?_
      refine aw_seq ?_
      refine aw_region_seq [⟨.d (.int .i64 (-1)), [], [], []⟩, ⟨.d (.bool false), [], [], []⟩] (by kernel_rfl) (by kernel_rfl) (fun id h => hG id (by simp [ks] at h ⊢ <;> omega)) ?_ ?_
      · exact okY rfl (LT_move rfl rfl) <| okY rfl (LT_cmp rfl rfl rfl rfl rfl) <| okE
      change AW _ _ _ _ _ _
      refine aw_weak (weak_of [(0, .ptr 1 0), (1, .d (.int .i64 4)), (9, .d (.sl m 1 (intsD l))), (10, .d (.int .i64 ((m : Nat) : Int))), (11, .d (.int .i64 0)), (7, .d (.int .i64 (l.getD 0 0))), (8, .d (.int .i64 (-1))), (18, .d (.bool false))] [(1, some ⟨102, 1, [.own 6 ((((n + 1) + 1) + 1) + 1) 1]⟩), (6, some ⟨5, 1, (u8D (ns ++ [(l.getD 0 0) / 16777216 % 256, (l.getD 0 0) / 65536 % 256, (l.getD 0 0) / 256 % 256, (l.getD 0 0) / 1 % 256])).map X.d⟩)] [1, 6] (sE rfl (sE rfl (sE rfl (sE rfl (sE rfl (sE rfl (sE rfl (sE rfl sE0)))))))) (sH rfl (sH rfl sH0)) (by simp only [Heap.ids, idsL_d, List.nil_append]; kernel_rfl)) ?_
      refine aw_condF rfl ?_
      refine aw_exit ?_
      change AW _ _ _ _ _ _
      refine aw_weak (weak_of [(0, .ptr 1 0), (1, .d (.int .i64 4)), (9, .d (.sl m 1 (intsD l))), (10, .d (.int .i64 ((m : Nat) : Int))), (11, .d (.int .i64 0))] [(1, some ⟨102, 1, [.own 6 ((((n + 1) + 1) + 1) + 1) 1]⟩), (6, some ⟨5, 1, (u8D (ns ++ [(l.getD 0 0) / 16777216 % 256, (l.getD 0 0) / 65536 % 256, (l.getD 0 0) / 256 % 256, (l.getD 0 0) / 1 % 256])).map X.d⟩)] [1, 6] (sE rfl (sE rfl (sE rfl (sE rfl (sE rfl sE0))))) (sH rfl (sH rfl sH0)) (by simp only [Heap.ids, idsL_d, List.nil_append]; kernel_rfl)) ?_
      refine aw_region_seq [⟨.d (.int .i64 1), [], [], []⟩, ⟨.d (.int .i64 1), [], [], []⟩] (by kernel_rfl) (by kernel_rfl) (fun id h => hG id (by simp [ks] at h ⊢ <;> omega)) ?_ ?_
      · exact okY rfl (LT_add rfl rfl rfl (by decide)) <| okY rfl (LT_move rfl rfl) <| okE
      refine ⟨(0 + 1), by omega, by omega, ((weak_of [(0, .ptr 1 0), (1, .d (.int .i64 4)), (9, .d (.sl m 1 (intsD l))), (10, .d (.int .i64 ((m : Nat) : Int))), (11, .d (.int .i64 1))] [(1, some ⟨102, 1, [.own 6 ((((n + 1) + 1) + 1) + 1) 1]⟩), (6, some ⟨5, 1, (u8D (ns ++ [(l.getD 0 0) / 16777216 % 256, (l.getD 0 0) / 65536 % 256, (l.getD 0 0) / 256 % 256, (l.getD 0 0) / 1 % 256])).map X.d⟩)] [1, 6] (sE rfl (sE rfl (sE rfl (sE rfl (sE rfl sE0))))) (sH rfl (sH rfl sH0)) (by simp only [Heap.ids, idsL_d, List.nil_append]; kernel_rfl)).trans (weak_swap2 (hG 6 (by simp [ks])) (hG 90 (by simp [ks])))).trans ?_⟩
      exact weak_of _ _ _ (sE rfl (sE rfl (sE rfl (sE rfl (sE rfl sE0))))) (sH rfl (sH (by rw [be4L_s (show 0 < l.length by omega)]; simp [look, renU, Ob.ren, X.ren, ren_d, sw, be4, be4L]) sH0)) (by simp only [Heap.ids, idsL_d, List.nil_append]; kernel_rfl)
    ·
      replace hb1 := of_decide_eq_false hb1
      exfalso; omega
  | i + 1, hJ0 =>
    change AW _ _ _ _ ⟨[(0, .ptr 1 0), (1, .d (.int .i64 4)), (9, .d (.sl m 1 (intsD l))), (10, .d (.int .i64 ((m : Nat) : Int))), (11, .d (.int .i64 (((i + 1) : Nat) : Int)))], [(1, some ⟨102, 1, [.own 90 (n + 4 * (i + 1)) 1]⟩), (90, some ⟨5, 1, (u8D (ns ++ be4L l (i + 1))).map X.d⟩)], [1, 90]⟩ _
    refine aw_seq ?_
    refine aw_region_seq [⟨.d (.bool (decide (((((i + 1) : Nat) : Int) : Int) < ((m : Nat) : Int)))), [], [], []⟩] (by kernel_rfl) (by kernel_rfl) (fun id h => hG id (by simp [ks] at h ⊢ <;> omega)) ?_ ?_
    · exact okY rfl (LT_cmp rfl rfl rfl rfl rfl) <| okE
    change AW _ _ _ _ _ _
    refine aw_weak (weak_of [(0, .ptr 1 0), (1, .d (.int .i64 4)), (9, .d (.sl m 1 (intsD l))), (10, .d (.int .i64 ((m : Nat) : Int))), (11, .d (.int .i64 (((i + 1) : Nat) : Int))), (12, .d (.bool (decide (((((i + 1) : Nat) : Int) : Int) < ((m : Nat) : Int)))))] [(1, some ⟨102, 1, [.own 90 (n + 4 * (i + 1)) 1]⟩), (90, some ⟨5, 1, (u8D (ns ++ be4L l (i + 1))).map X.d⟩)] [1, 90] (sE rfl (sE rfl (sE rfl (sE rfl (sE rfl (sE rfl sE0)))))) (sH rfl (sH rfl sH0)) (by simp only [Heap.ids, idsL_d, List.nil_append]; kernel_rfl)) ?_
    refine aw_seq ?_
    refine aw_cond (decide (((((i + 1) : Nat) : Int) : Int) < ((m : Nat) : Int))) rfl (fun hb2 => ?_) (fun hb2 => ?_)
    ·
      replace hb2 := of_decide_eq_true hb2
      refine aw_skip ?_
      change AW _ _ _ _ _ _
      refine aw_weak (weak_of [(0, .ptr 1 0), (1, .d (.int .i64 4)), (9, .d (.sl m 1 (intsD l))), (10, .d (.int .i64 ((m : Nat) : Int))), (11, .d (.int .i64 (((i + 1) : Nat) : Int)))] [(1, some ⟨102, 1, [.own 90 (n + 4 * (i + 1)) 1]⟩), (90, some ⟨5, 1, (u8D (ns ++ be4L l (i + 1))).map X.d⟩)] [1, 90] (sE rfl (sE rfl (sE rfl (sE rfl (sE rfl sE0))))) (sH rfl (sH rfl sH0)) (by simp only [Heap.ids, idsL_d, List.nil_append]; kernel_rfl)) ?_
      refine aw_seq ?_
      refine aw_block ?_
      refine aw_seq ?_
      refine aw_region_seq [⟨.dptr [.int .i64 (l.getD (i + 1) 0)], [], [], []⟩, ⟨.d (.int .i64 (l.getD (i + 1) 0)), [], [], []⟩, ⟨.d (.int .i64 (l.getD (i + 1) 0)), [], [], []⟩] (by kernel_rfl) (by kernel_rfl) (fun id h => hG id (by simp [ks] at h ⊢ <;> omega)) ?_ ?_
      · exact okY rfl (LT_indexD rfl rfl rfl Tryz.underlying36 inf3 rfl (by omega) (by omega) (intsD_at' (by omega))) <| okY rfl (LT_loadD 1 rfl rfl Tryz.underlying3 inf3 (by simp) (.inr ⟨rfl, rfl, rfl⟩)) <| okY rfl (LT_assign rfl rfl) <| okE
      change AW _ _ _ _ _ _
      refine aw_weak (weak_of [(0, .ptr 1 0), (1, .d (.int .i64 4)), (9, .d (.sl m 1 (intsD l))), (10, .d (.int .i64 ((m : Nat) : Int))), (11, .d (.int .i64 (((i + 1) : Nat) : Int))), (7, .d (.int .i64 (l.getD (i + 1) 0)))] [(1, some ⟨102, 1, [.own 90 (n + 4 * (i + 1)) 1]⟩), (90, some ⟨5, 1, (u8D (ns ++ be4L l (i + 1))).map X.d⟩)] [1, 90] (sE rfl (sE rfl (sE rfl (sE rfl (sE rfl (sE rfl sE0)))))) (sH rfl (sH rfl sH0)) (by simp only [Heap.ids, idsL_d, List.nil_append]; kernel_rfl)) ?_
      refine aw_seq ?_
      refine aw_region_seq [⟨.d (.int .i64 4), [], [], []⟩, ⟨.d (.int .i64 3), [], [], []⟩, ⟨.d (.int .i64 3), [], [], []⟩] (by kernel_rfl) (by kernel_rfl) (fun id h => hG id (by simp [ks] at h ⊢ <;> omega)) ?_ ?_
      · exact okY rfl (LT_move rfl rfl) <| okY rfl (LT_sub rfl rfl rfl (by decide)) <| okY rfl (LT_assign rfl rfl) <| okE
      change AW _ _ _ _ _ _
      refine aw_weak (weak_of [(0, .ptr 1 0), (1, .d (.int .i64 4)), (9, .d (.sl m 1 (intsD l))), (10, .d (.int .i64 ((m : Nat) : Int))), (11, .d (.int .i64 (((i + 1) : Nat) : Int))), (7, .d (.int .i64 (l.getD (i + 1) 0))), (8, .d (.int .i64 3))] [(1, some ⟨102, 1, [.own 90 (n + 4 * (i + 1)) 1]⟩), (90, some ⟨5, 1, (u8D (ns ++ be4L l (i + 1))).map X.d⟩)] [1, 90] (sE rfl (sE rfl (sE rfl (sE rfl (sE rfl (sE rfl (sE rfl sE0))))))) (sH rfl (sH rfl sH0)) (by simp only [Heap.ids, idsL_d, List.nil_append]; kernel_rfl)) ?_
      refine aw_block ?_
      refine aw_rounds 5 ?_
      change AW _ _ _ _ _ _
      refine aw_seq ?_
      refine aw_seq ?_
      refine aw_region_seq [⟨.d (.int .i64 3), [], [], []⟩, ⟨.d (.bool true), [], [], []⟩] (by kernel_rfl) (by kernel_rfl) (fun id h => hG id (by simp [ks] at h ⊢ <;> omega)) ?_ ?_
      · exact okY rfl (LT_move rfl rfl) <| okY rfl (LT_cmp rfl rfl rfl rfl rfl) <| okE
      change AW _ _ _ _ _ _
      refine aw_weak (weak_of [(0, .ptr 1 0), (1, .d (.int .i64 4)), (9, .d (.sl m 1 (intsD l))), (10, .d (.int .i64 ((m : Nat) : Int))), (11, .d (.int .i64 (((i + 1) : Nat) : Int))), (7, .d (.int .i64 (l.getD (i + 1) 0))), (8, .d (.int .i64 3)), (18, .d (.bool true))] [(1, some ⟨102, 1, [.own 90 (n + 4 * (i + 1)) 1]⟩), (90, some ⟨5, 1, (u8D (ns ++ be4L l (i + 1))).map X.d⟩)] [1, 90] (sE rfl (sE rfl (sE rfl (sE rfl (sE rfl (sE rfl (sE rfl (sE rfl sE0)))))))) (sH rfl (sH rfl sH0)) (by simp only [Heap.ids, idsL_d, List.nil_append]; kernel_rfl)) ?_
      refine aw_condT rfl ?_
      refine aw_skip ?_
      change AW _ _ _ _ _ _
      refine aw_weak (weak_of [(0, .ptr 1 0), (1, .d (.int .i64 4)), (9, .d (.sl m 1 (intsD l))), (10, .d (.int .i64 ((m : Nat) : Int))), (11, .d (.int .i64 (((i + 1) : Nat) : Int))), (7, .d (.int .i64 (l.getD (i + 1) 0))), (8, .d (.int .i64 3))] [(1, some ⟨102, 1, [.own 90 (n + 4 * (i + 1)) 1]⟩), (90, some ⟨5, 1, (u8D (ns ++ be4L l (i + 1))).map X.d⟩)] [1, 90] (sE rfl (sE rfl (sE rfl (sE rfl (sE rfl (sE rfl (sE rfl sE0))))))) (sH rfl (sH rfl sH0)) (by simp only [Heap.ids, idsL_d, List.nil_append]; kernel_rfl)) ?_
      refine aw_seq ?_
      refine aw_block ?_
      refine aw_region_any rfl [⟨.ptr 1 0, [], [], []⟩, ⟨.ptr 1 0, [], [], []⟩, ⟨.ptr 1 0, [], [], []⟩, ⟨.ptr 1 0, [], [], []⟩, ⟨.own 90 (n + 4 * (i + 1)) 1, [], [], [1]⟩, ⟨.d (.int .i64 (l.getD (i + 1) 0)), [], [], []⟩, ⟨.d (.int .i64 3), [], [], []⟩, ⟨.d (.int .i64 24), [], [], []⟩, ⟨.d (.int .i64 ((l.getD (i + 1) 0) / 16777216)), [], [], []⟩, ⟨.d (.int .u8 (((l.getD (i + 1) 0) / 16777216) % 256)), [], [], []⟩, ⟨.d (.sl 1 1 ([(((l.getD (i + 1) 0) / 16777216) % 256)].map (.int .u8))), [], [], []⟩, ⟨.own 7 ((n + 4 * (i + 1)) + 1) 1, [(7, some ⟨5, 1, (u8D (ns ++ be4L l (i + 1) ++ [(l.getD (i + 1) 0) / 16777216 % 256])).map X.d⟩), (90, none)], [7], [90]⟩, ⟨.ptr 1 0, [], [], []⟩, ⟨.ptr 1 0, [], [], []⟩, ⟨.tup [], [(1, some ⟨102, 1, [.own 7 ((n + 4 * (i + 1)) + 1) 1]⟩)], [], [1]⟩] (by kernel_rfl) (by kernel_rfl) (by kernel_rfl) (fun id h => hG id (by simp [ks] at h ⊢ <;> omega)) ?_ ?_
      · exact okY rfl (LT_move rfl rfl) <| okY rfl (LT_move rfl rfl) <| okY rfl (LT_nilCheck rfl rfl) <| okY rfl (LT_fieldAddr rfl rfl Tryz.underlying100 rfl inf23 (by decide) _ rfl) <| okY rfl (LT_load 1 rfl rfl rfl (List.Mem.head _) Tryz.underlying23 inf23 (by simp) (.inr ⟨rfl, rfl, rfl⟩)) <| okY rfl (LT_move rfl rfl) <| okY rfl (LT_move rfl rfl) <| okY rfl (LT_mul rfl rfl rfl (by decide)) <| okY rfl (LT_shift rfl (.inr rfl) rfl rfl (shrI (l.getD (i + 1) 0) 24 16777216 (by decide) (by decide))) <| okY rfl (LT_conv rfl Tryz.underlying3 Tryz.underlying5 rfl (IntKind.wrap_u8 _)) <| okY rfl (LT_buildSliceD [.d (.int .u8 (((l.getD (i + 1) 0) / 16777216) % 256))] ([(((l.getD (i + 1) 0) / 16777216) % 256)].map (.int .u8)) rfl Tryz.underlying23 inf5 rfl rfl 1 rfl (by decide) (by decide) rfl rfl (by decide) rfl (by kernel_rfl) rfl) <| okY rfl (LT_append 7 rfl Tryz.underlying23 inf5 rfl rfl rfl (by decide) rfl rfl rfl (List.Mem.head _) (List.Mem.head _) rfl rfl (by show _ = (n + 4 * (i + 1)) * 1; simp [u8D, be4L_len (show (i + 1) ≤ l.length by omega)]; omega) (by omega) (by omega) (by show (_ + _) * 1 ≤ _; omega) ((u8D (ns ++ be4L l (i + 1) ++ [(l.getD (i + 1) 0) / 16777216 % 256])).map X.d) (by simp [u8D]) ((n + 4 * (i + 1)) + 1) rfl) <| okY rfl (LT_nilCheck rfl rfl) <| okY rfl (LT_fieldAddr rfl rfl Tryz.underlying100 rfl inf23 (by decide) _ rfl) <| okY rfl (LT_store (ob := ⟨102, 1, [.own 90 (n + 4 * (i + 1)) 1]⟩) (x := .own 7 ((n + 4 * (i + 1)) + 1) 1) rfl rfl rfl (List.Mem.head _) inf23 rfl rfl rfl (by simp [X.cells]) _ rfl) <| okE
      change AW _ _ _ _ _ _
      refine aw_weak (weak_of [(0, .ptr 1 0), (1, .d (.int .i64 4)), (9, .d (.sl m 1 (intsD l))), (10, .d (.int .i64 ((m : Nat) : Int))), (11, .d (.int .i64 (((i + 1) : Nat) : Int))), (7, .d (.int .i64 (l.getD (i + 1) 0))), (8, .d (.int .i64 3))] [(1, some ⟨102, 1, [.own 7 ((n + 4 * (i + 1)) + 1) 1]⟩), (7, some ⟨5, 1, (u8D (ns ++ be4L l (i + 1) ++ [(l.getD (i + 1) 0) / 16777216 % 256])).map X.d⟩)] [1, 7] (sE rfl (sE rfl (sE rfl (sE rfl (sE rfl (sE rfl (sE rfl sE0))))))) (sH rfl (sH rfl sH0)) (by simp only [Heap.ids, idsL_d, List.nil_append]; kernel_rfl)) ?_
      refine aw_region_seq [⟨.d (.int .i64 3), [], [], []⟩, ⟨.d (.int .i64 2), [], [], []⟩, ⟨.d (.int .i64 2), [], [], []⟩] (by kernel_rfl) (by kernel_rfl) (fun id h => hG id (by simp [ks] at h ⊢ <;> omega)) ?_ ?_
      · exact okY rfl (LT_move rfl rfl) <| okY rfl (LT_sub rfl rfl rfl (by decide)) <| okY rfl (LT_assign rfl rfl) <| okE
      change AW _ _ _ _ _ _
      refine aw_weak (weak_of [(0, .ptr 1 0), (1, .d (.int .i64 4)), (9, .d (.sl m 1 (intsD l))), (10, .d (.int .i64 ((m : Nat) : Int))), (11, .d (.int .i64 (((i + 1) : Nat) : Int))), (7, .d (.int .i64 (l.getD (i + 1) 0))), (8, .d (.int .i64 2))] [(1, some ⟨102, 1, [.own 7 ((n + 4 * (i + 1)) + 1) 1]⟩), (7, some ⟨5, 1, (u8D (ns ++ be4L l (i + 1) ++ [(l.getD (i + 1) 0) / 16777216 % 256])).map X.d⟩)] [1, 7] (sE rfl (sE rfl (sE rfl (sE rfl (sE rfl (sE rfl (sE rfl sE0))))))) (sH rfl (sH rfl sH0)) (by simp only [Heap.ids, idsL_d, List.nil_append]; kernel_rfl)) ?_
      refine aw_seq ?_
      refine aw_seq ?_
      refine aw_region_seq [⟨.d (.int .i64 2), [], [], []⟩, ⟨.d (.bool true), [], [], []⟩] (by kernel_rfl) (by kernel_rfl) (fun id h => hG id (by simp [ks] at h ⊢ <;> omega)) ?_ ?_
      · exact okY rfl (LT_move rfl rfl) <| okY rfl (LT_cmp rfl rfl rfl rfl rfl) <| okE
      change AW _ _ _ _ _ _
      refine aw_weak (weak_of [(0, .ptr 1 0), (1, .d (.int .i64 4)), (9, .d (.sl m 1 (intsD l))), (10, .d (.int .i64 ((m : Nat) : Int))), (11, .d (.int .i64 (((i + 1) : Nat) : Int))), (7, .d (.int .i64 (l.getD (i + 1) 0))), (8, .d (.int .i64 2)), (18, .d (.bool true))] [(1, some ⟨102, 1, [.own 7 ((n + 4 * (i + 1)) + 1) 1]⟩), (7, some ⟨5, 1, (u8D (ns ++ be4L l (i + 1) ++ [(l.getD (i + 1) 0) / 16777216 % 256])).map X.d⟩)] [1, 7] (sE rfl (sE rfl (sE rfl (sE rfl (sE rfl (sE rfl (sE rfl (sE rfl sE0)))))))) (sH rfl (sH rfl sH0)) (by simp only [Heap.ids, idsL_d, List.nil_append]; kernel_rfl)) ?_
      refine aw_condT rfl ?_
      refine aw_skip ?_
      change AW _ _ _ _ _ _
      refine aw_weak (weak_of [(0, .ptr 1 0), (1, .d (.int .i64 4)), (9, .d (.sl m 1 (intsD l))), (10, .d (.int .i64 ((m : Nat) : Int))), (11, .d (.int .i64 (((i + 1) : Nat) : Int))), (7, .d (.int .i64 (l.getD (i + 1) 0))), (8, .d (.int .i64 2))] [(1, some ⟨102, 1, [.own 7 ((n + 4 * (i + 1)) + 1) 1]⟩), (7, some ⟨5, 1, (u8D (ns ++ be4L l (i + 1) ++ [(l.getD (i + 1) 0) / 16777216 % 256])).map X.d⟩)] [1, 7] (sE rfl (sE rfl (sE rfl (sE rfl (sE rfl (sE rfl (sE rfl sE0))))))) (sH rfl (sH rfl sH0)) (by simp only [Heap.ids, idsL_d, List.nil_append]; kernel_rfl)) ?_
      refine aw_seq ?_
      refine aw_block ?_
      refine aw_region_any rfl [⟨.ptr 1 0, [], [], []⟩, ⟨.ptr 1 0, [], [], []⟩, ⟨.ptr 1 0, [], [], []⟩, ⟨.ptr 1 0, [], [], []⟩, ⟨.own 7 ((n + 4 * (i + 1)) + 1) 1, [], [], [1]⟩, ⟨.d (.int .i64 (l.getD (i + 1) 0)), [], [], []⟩, ⟨.d (.int .i64 2), [], [], []⟩, ⟨.d (.int .i64 16), [], [], []⟩, ⟨.d (.int .i64 ((l.getD (i + 1) 0) / 65536)), [], [], []⟩, ⟨.d (.int .u8 (((l.getD (i + 1) 0) / 65536) % 256)), [], [], []⟩, ⟨.d (.sl 1 1 ([(((l.getD (i + 1) 0) / 65536) % 256)].map (.int .u8))), [], [], []⟩, ⟨.own 8 (((n + 4 * (i + 1)) + 1) + 1) 1, [(8, some ⟨5, 1, (u8D (ns ++ be4L l (i + 1) ++ [(l.getD (i + 1) 0) / 16777216 % 256, (l.getD (i + 1) 0) / 65536 % 256])).map X.d⟩), (7, none)], [8], [7]⟩, ⟨.ptr 1 0, [], [], []⟩, ⟨.ptr 1 0, [], [], []⟩, ⟨.tup [], [(1, some ⟨102, 1, [.own 8 (((n + 4 * (i + 1)) + 1) + 1) 1]⟩)], [], [1]⟩] (by kernel_rfl) (by kernel_rfl) (by kernel_rfl) (fun id h => hG id (by simp [ks] at h ⊢ <;> omega)) ?_ ?_
      · exact okY rfl (LT_move rfl rfl) <| okY rfl (LT_move rfl rfl) <| okY rfl (LT_nilCheck rfl rfl) <| okY rfl (LT_fieldAddr rfl rfl Tryz.underlying100 rfl inf23 (by decide) _ rfl) <| okY rfl (LT_load 1 rfl rfl rfl (List.Mem.head _) Tryz.underlying23 inf23 (by simp) (.inr ⟨rfl, rfl, rfl⟩)) <| okY rfl (LT_move rfl rfl) <| okY rfl (LT_move rfl rfl) <| okY rfl (LT_mul rfl rfl rfl (by decide)) <| okY rfl (LT_shift rfl (.inr rfl) rfl rfl (shrI (l.getD (i + 1) 0) 16 65536 (by decide) (by decide))) <| okY rfl (LT_conv rfl Tryz.underlying3 Tryz.underlying5 rfl (IntKind.wrap_u8 _)) <| okY rfl (LT_buildSliceD [.d (.int .u8 (((l.getD (i + 1) 0) / 65536) % 256))] ([(((l.getD (i + 1) 0) / 65536) % 256)].map (.int .u8)) rfl Tryz.underlying23 inf5 rfl rfl 1 rfl (by decide) (by decide) rfl rfl (by decide) rfl (by kernel_rfl) rfl) <| okY rfl (LT_append 8 rfl Tryz.underlying23 inf5 rfl rfl rfl (by decide) rfl rfl rfl (List.Mem.head _) (List.Mem.head _) rfl rfl (by show _ = ((n + 4 * (i + 1)) + 1) * 1; simp [u8D, be4L_len (show (i + 1) ≤ l.length by omega)]; omega) (by omega) (by omega) (by show (_ + _) * 1 ≤ _; omega) ((u8D (ns ++ be4L l (i + 1) ++ [(l.getD (i + 1) 0) / 16777216 % 256, (l.getD (i + 1) 0) / 65536 % 256])).map X.d) (by simp [u8D]) (((n + 4 * (i + 1)) + 1) + 1) rfl) <| okY rfl (LT_nilCheck rfl rfl) <| okY rfl (LT_fieldAddr rfl rfl Tryz.underlying100 rfl inf23 (by decide) _ rfl) <| okY rfl (LT_store (ob := ⟨102, 1, [.own 7 ((n + 4 * (i + 1)) + 1) 1]⟩) (x := .own 8 (((n + 4 * (i + 1)) + 1) + 1) 1) rfl rfl rfl (List.Mem.head _) inf23 rfl rfl rfl (by simp [X.cells]) _ rfl) <| okE
      change AW _ _ _ _ _ _
      refine aw_weak (weak_of [(0, .ptr 1 0), (1, .d (.int .i64 4)), (9, .d (.sl m 1 (intsD l))), (10, .d (.int .i64 ((m : Nat) : Int))), (11, .d (.int .i64 (((i + 1) : Nat) : Int))), (7, .d (.int .i64 (l.getD (i + 1) 0))), (8, .d (.int .i64 2))] [(1, some ⟨102, 1, [.own 8 (((n + 4 * (i + 1)) + 1) + 1) 1]⟩), (8, some ⟨5, 1, (u8D (ns ++ be4L l (i + 1) ++ [(l.getD (i + 1) 0) / 16777216 % 256, (l.getD (i + 1) 0) / 65536 % 256])).map X.d⟩)] [1, 8] (sE rfl (sE rfl (sE rfl (sE rfl (sE rfl (sE rfl (sE rfl sE0))))))) (sH rfl (sH rfl sH0)) (by simp only [Heap.ids, idsL_d, List.nil_append]; kernel_rfl)) ?_
      refine aw_region_seq [⟨.d (.int .i64 2), [], [], []⟩, ⟨.d (.int .i64 1), [], [], []⟩, ⟨.d (.int .i64 1), [], [], []⟩] (by kernel_rfl) (by kernel_rfl) (fun id h => hG id (by simp [ks] at h ⊢ <;> omega)) ?_ ?_
      · exact okY rfl (LT_move rfl rfl) <| okY rfl (LT_sub rfl rfl rfl (by decide)) <| okY rfl (LT_assign rfl rfl) <| okE
      change AW _ _ _ _ _ _
      refine aw_weak (weak_of [(0, .ptr 1 0), (1, .d (.int .i64 4)), (9, .d (.sl m 1 (intsD l))), (10, .d (.int .i64 ((m : Nat) : Int))), (11, .d (.int .i64 (((i + 1) : Nat) : Int))), (7, .d (.int .i64 (l.getD (i + 1) 0))), (8, .d (.int .i64 1))] [(1, some ⟨102, 1, [.own 8 (((n + 4 * (i + 1)) + 1) + 1) 1]⟩), (8, some ⟨5, 1, (u8D (ns ++ be4L l (i + 1) ++ [(l.getD (i + 1) 0) / 16777216 % 256, (l.getD (i + 1) 0) / 65536 % 256])).map X.d⟩)] [1, 8] (sE rfl (sE rfl (sE rfl (sE rfl (sE rfl (sE rfl (sE rfl sE0))))))) (sH rfl (sH rfl sH0)) (by simp only [Heap.ids, idsL_d, List.nil_append]; kernel_rfl)) ?_
      refine aw_seq ?_
      refine aw_seq ?_
      refine aw_region_seq [⟨.d (.int .i64 1), [], [], []⟩, ⟨.d (.bool true), [], [], []⟩] (by kernel_rfl) (by kernel_rfl) (fun id h => hG id (by simp [ks] at h ⊢ <;> omega)) ?_ ?_
      · exact okY rfl (LT_move rfl rfl) <| okY rfl (LT_cmp rfl rfl rfl rfl rfl) <| okE
      change AW _ _ _ _ _ _
      refine aw_weak (weak_of [(0, .ptr 1 0), (1, .d (.int .i64 4)), (9, .d (.sl m 1 (intsD l))), (10, .d (.int .i64 ((m : Nat) : Int))), (11, .d (.int .i64 (((i + 1) : Nat) : Int))), (7, .d (.int .i64 (l.getD (i + 1) 0))), (8, .d (.int .i64 1)), (18, .d (.bool true))] [(1, some ⟨102, 1, [.own 8 (((n + 4 * (i + 1)) + 1) + 1) 1]⟩), (8, some ⟨5, 1, (u8D (ns ++ be4L l (i + 1) ++ [(l.getD (i + 1) 0) / 16777216 % 256, (l.getD (i + 1) 0) / 65536 % 256])).map X.d⟩)] [1, 8] (sE rfl (sE rfl (sE rfl (sE rfl (sE rfl (sE rfl (sE rfl (sE rfl sE0)))))))) (sH rfl (sH rfl sH0)) (by simp only [Heap.ids, idsL_d, List.nil_append]; kernel_rfl)) ?_
      refine aw_condT rfl ?_
      refine aw_skip ?_
      change AW _ _ _ _ _ _
      refine aw_weak (weak_of [(0, .ptr 1 0), (1, .d (.int .i64 4)), (9, .d (.sl m 1 (intsD l))), (10, .d (.int .i64 ((m : Nat) : Int))), (11, .d (.int .i64 (((i + 1) : Nat) : Int))), (7, .d (.int .i64 (l.getD (i + 1) 0))), (8, .d (.int .i64 1))] [(1, some ⟨102, 1, [.own 8 (((n + 4 * (i + 1)) + 1) + 1) 1]⟩), (8, some ⟨5, 1, (u8D (ns ++ be4L l (i + 1) ++ [(l.getD (i + 1) 0) / 16777216 % 256, (l.getD (i + 1) 0) / 65536 % 256])).map X.d⟩)] [1, 8] (sE rfl (sE rfl (sE rfl (sE rfl (sE rfl (sE rfl (sE rfl sE0))))))) (sH rfl (sH rfl sH0)) (by simp only [Heap.ids, idsL_d, List.nil_append]; kernel_rfl)) ?_
      refine aw_seq ?_
      refine aw_block ?_
      refine aw_region_any rfl [⟨.ptr 1 0, [], [], []⟩, ⟨.ptr 1 0, [], [], []⟩, ⟨.ptr 1 0, [], [], []⟩, ⟨.ptr 1 0, [], [], []⟩, ⟨.own 8 (((n + 4 * (i + 1)) + 1) + 1) 1, [], [], [1]⟩, ⟨.d (.int .i64 (l.getD (i + 1) 0)), [], [], []⟩, ⟨.d (.int .i64 1), [], [], []⟩, ⟨.d (.int .i64 8), [], [], []⟩, ⟨.d (.int .i64 ((l.getD (i + 1) 0) / 256)), [], [], []⟩, ⟨.d (.int .u8 (((l.getD (i + 1) 0) / 256) % 256)), [], [], []⟩, ⟨.d (.sl 1 1 ([(((l.getD (i + 1) 0) / 256) % 256)].map (.int .u8))), [], [], []⟩, ⟨.own 9 ((((n + 4 * (i + 1)) + 1) + 1) + 1) 1, [(9, some ⟨5, 1, (u8D (ns ++ be4L l (i + 1) ++ [(l.getD (i + 1) 0) / 16777216 % 256, (l.getD (i + 1) 0) / 65536 % 256, (l.getD (i + 1) 0) / 256 % 256])).map X.d⟩), (8, none)], [9], [8]⟩, ⟨.ptr 1 0, [], [], []⟩, ⟨.ptr 1 0, [], [], []⟩, ⟨.tup [], [(1, some ⟨102, 1, [.own 9 ((((n + 4 * (i + 1)) + 1) + 1) + 1) 1]⟩)], [], [1]⟩] (by kernel_rfl) (by kernel_rfl) (by kernel_rfl) (fun id h => hG id (by simp [ks] at h ⊢ <;> omega)) ?_ ?_
      · exact okY rfl (LT_move rfl rfl) <| okY rfl (LT_move rfl rfl) <| okY rfl (LT_nilCheck rfl rfl) <| okY rfl (LT_fieldAddr rfl rfl Tryz.underlying100 rfl inf23 (by decide) _ rfl) <| okY rfl (LT_load 1 rfl rfl rfl (List.Mem.head _) Tryz.underlying23 inf23 (by simp) (.inr ⟨rfl, rfl, rfl⟩)) <| okY rfl (LT_move rfl rfl) <| okY rfl (LT_move rfl rfl) <| okY rfl (LT_mul rfl rfl rfl (by decide)) <| okY rfl (LT_shift rfl (.inr rfl) rfl rfl (shrI (l.getD (i + 1) 0) 8 256 (by decide) (by decide))) <| okY rfl (LT_conv rfl Tryz.underlying3 Tryz.underlying5 rfl (IntKind.wrap_u8 _)) <| okY rfl (LT_buildSliceD [.d (.int .u8 (((l.getD (i + 1) 0) / 256) % 256))] ([(((l.getD (i + 1) 0) / 256) % 256)].map (.int .u8)) rfl Tryz.underlying23 inf5 rfl rfl 1 rfl (by decide) (by decide) rfl rfl (by decide) rfl (by kernel_rfl) rfl) <| okY rfl (LT_append 9 rfl Tryz.underlying23 inf5 rfl rfl rfl (by decide) rfl rfl rfl (List.Mem.head _) (List.Mem.head _) rfl rfl (by show _ = (((n + 4 * (i + 1)) + 1) + 1) * 1; simp [u8D, be4L_len (show (i + 1) ≤ l.length by omega)]; omega) (by omega) (by omega) (by show (_ + _) * 1 ≤ _; omega) ((u8D (ns ++ be4L l (i + 1) ++ [(l.getD (i + 1) 0) / 16777216 % 256, (l.getD (i + 1) 0) / 65536 % 256, (l.getD (i + 1) 0) / 256 % 256])).map X.d) (by simp [u8D]) ((((n + 4 * (i + 1)) + 1) + 1) + 1) rfl) <| okY rfl (LT_nilCheck rfl rfl) <| okY rfl (LT_fieldAddr rfl rfl Tryz.underlying100 rfl inf23 (by decide) _ rfl) <| okY rfl (LT_store (ob := ⟨102, 1, [.own 8 (((n + 4 * (i + 1)) + 1) + 1) 1]⟩) (x := .own 9 ((((n + 4 * (i + 1)) + 1) + 1) + 1) 1) rfl rfl rfl (List.Mem.head _) inf23 rfl rfl rfl (by simp [X.cells]) _ rfl) <| okE
      change AW _ _ _ _ _ _
      refine aw_weak (weak_of [(0, .ptr 1 0), (1, .d (.int .i64 4)), (9, .d (.sl m 1 (intsD l))), (10, .d (.int .i64 ((m : Nat) : Int))), (11, .d (.int .i64 (((i + 1) : Nat) : Int))), (7, .d (.int .i64 (l.getD (i + 1) 0))), (8, .d (.int .i64 1))] [(1, some ⟨102, 1, [.own 9 ((((n + 4 * (i + 1)) + 1) + 1) + 1) 1]⟩), (9, some ⟨5, 1, (u8D (ns ++ be4L l (i + 1) ++ [(l.getD (i + 1) 0) / 16777216 % 256, (l.getD (i + 1) 0) / 65536 % 256, (l.getD (i + 1) 0) / 256 % 256])).map X.d⟩)] [1, 9] (sE rfl (sE rfl (sE rfl (sE rfl (sE rfl (sE rfl (sE rfl sE0))))))) (sH rfl (sH rfl sH0)) (by simp only [Heap.ids, idsL_d, List.nil_append]; kernel_rfl)) ?_
      refine aw_region_seq [⟨.d (.int .i64 1), [], [], []⟩, ⟨.d (.int .i64 0), [], [], []⟩, ⟨.d (.int .i64 0), [], [], []⟩] (by kernel_rfl) (by kernel_rfl) (fun id h => hG id (by simp [ks] at h ⊢ <;> omega)) ?_ ?_
      · exact okY rfl (LT_move rfl rfl) <| okY rfl (LT_sub rfl rfl rfl (by decide)) <| okY rfl (LT_assign rfl rfl) <| okE
      change AW _ _ _ _ _ _
      refine aw_weak (weak_of [(0, .ptr 1 0), (1, .d (.int .i64 4)), (9, .d (.sl m 1 (intsD l))), (10, .d (.int .i64 ((m : Nat) : Int))), (11, .d (.int .i64 (((i + 1) : Nat) : Int))), (7, .d (.int .i64 (l.getD (i + 1) 0))), (8, .d (.int .i64 0))] [(1, some ⟨102, 1, [.own 9 ((((n + 4 * (i + 1)) + 1) + 1) + 1) 1]⟩), (9, some ⟨5, 1, (u8D (ns ++ be4L l (i + 1) ++ [(l.getD (i + 1) 0) / 16777216 % 256, (l.getD (i + 1) 0) / 65536 % 256, (l.getD (i + 1) 0) / 256 % 256])).map X.d⟩)] [1, 9] (sE rfl (sE rfl (sE rfl (sE rfl (sE rfl (sE rfl (sE rfl sE0))))))) (sH rfl (sH rfl sH0)) (by simp only [Heap.ids, idsL_d, List.nil_append]; kernel_rfl)) ?_
      refine aw_seq ?_
      refine aw_seq ?_
      refine aw_region_seq [⟨.d (.int .i64 0), [], [], []⟩, ⟨.d (.bool true), [], [], []⟩] (by kernel_rfl) (by kernel_rfl) (fun id h => hG id (by simp [ks] at h ⊢ <;> omega)) ?_ ?_
      · exact okY rfl (LT_move rfl rfl) <| okY rfl (LT_cmp rfl rfl rfl rfl rfl) <| okE
      change AW _ _ _ _ _ _
      refine aw_weak (weak_of [(0, .ptr 1 0), (1, .d (.int .i64 4)), (9, .d (.sl m 1 (intsD l))), (10, .d (.int .i64 ((m : Nat) : Int))), (11, .d (.int .i64 (((i + 1) : Nat) : Int))), (7, .d (.int .i64 (l.getD (i + 1) 0))), (8, .d (.int .i64 0)), (18, .d (.bool true))] [(1, some ⟨102, 1, [.own 9 ((((n + 4 * (i + 1)) + 1) + 1) + 1) 1]⟩), (9, some ⟨5, 1, (u8D (ns ++ be4L l (i + 1) ++ [(l.getD (i + 1) 0) / 16777216 % 256, (l.getD (i + 1) 0) / 65536 % 256, (l.getD (i + 1) 0) / 256 % 256])).map X.d⟩)] [1, 9] (sE rfl (sE rfl (sE rfl (sE rfl (sE rfl (sE rfl (sE rfl (sE rfl sE0)))))))) (sH rfl (sH rfl sH0)) (by simp only [Heap.ids, idsL_d, List.nil_append]; kernel_rfl)) ?_
      refine aw_condT rfl ?_
      refine aw_skip ?_
      change AW _ _ _ _ _ _
      refine aw_weak (weak_of [(0, .ptr 1 0), (1, .d (.int .i64 4)), (9, .d (.sl m 1 (intsD l))), (10, .d (.int .i64 ((m : Nat) : Int))), (11, .d (.int .i64 (((i + 1) : Nat) : Int))), (7, .d (.int .i64 (l.getD (i + 1) 0))), (8, .d (.int .i64 0))] [(1, some ⟨102, 1, [.own 9 ((((n + 4 * (i + 1)) + 1) + 1) + 1) 1]⟩), (9, some ⟨5, 1, (u8D (ns ++ be4L l (i + 1) ++ [(l.getD (i + 1) 0) / 16777216 % 256, (l.getD (i + 1) 0) / 65536 % 256, (l.getD (i + 1) 0) / 256 % 256])).map X.d⟩)] [1, 9] (sE rfl (sE rfl (sE rfl (sE rfl (sE rfl (sE rfl (sE rfl sE0))))))) (sH rfl (sH rfl sH0)) (by simp only [Heap.ids, idsL_d, List.nil_append]; kernel_rfl)) ?_
      refine aw_seq ?_
      refine aw_block ?_
      refine aw_region_any rfl [⟨.ptr 1 0, [], [], []⟩, ⟨.ptr 1 0, [], [], []⟩, ⟨.ptr 1 0, [], [], []⟩, ⟨.ptr 1 0, [], [], []⟩, ⟨.own 9 ((((n + 4 * (i + 1)) + 1) + 1) + 1) 1, [], [], [1]⟩, ⟨.d (.int .i64 (l.getD (i + 1) 0)), [], [], []⟩, ⟨.d (.int .i64 0), [], [], []⟩, ⟨.d (.int .i64 0), [], [], []⟩, ⟨.d (.int .i64 ((l.getD (i + 1) 0) / 1)), [], [], []⟩, ⟨.d (.int .u8 (((l.getD (i + 1) 0) / 1) % 256)), [], [], []⟩, ⟨.d (.sl 1 1 ([(((l.getD (i + 1) 0) / 1) % 256)].map (.int .u8))), [], [], []⟩, ⟨.own 10 (((((n + 4 * (i + 1)) + 1) + 1) + 1) + 1) 1, [(10, some ⟨5, 1, (u8D (ns ++ be4L l (i + 1) ++ [(l.getD (i + 1) 0) / 16777216 % 256, (l.getD (i + 1) 0) / 65536 % 256, (l.getD (i + 1) 0) / 256 % 256, (l.getD (i + 1) 0) / 1 % 256])).map X.d⟩), (9, none)], [10], [9]⟩, ⟨.ptr 1 0, [], [], []⟩, ⟨.ptr 1 0, [], [], []⟩, ⟨.tup [], [(1, some ⟨102, 1, [.own 10 (((((n + 4 * (i + 1)) + 1) + 1) + 1) + 1) 1]⟩)], [], [1]⟩] (by kernel_rfl) (by kernel_rfl) (by kernel_rfl) (fun id h => hG id (by simp [ks] at h ⊢ <;> omega)) ?_ ?_
      · exact okY rfl (LT_move rfl rfl) <| okY rfl (LT_move rfl rfl) <| okY rfl (LT_nilCheck rfl rfl) <| okY rfl (LT_fieldAddr rfl rfl Tryz.underlying100 rfl inf23 (by decide) _ rfl) <| okY rfl (LT_load 1 rfl rfl rfl (List.Mem.head _) Tryz.underlying23 inf23 (by simp) (.inr ⟨rfl, rfl, rfl⟩)) <| okY rfl (LT_move rfl rfl) <| okY rfl (LT_move rfl rfl) <| okY rfl (LT_mul rfl rfl rfl (by decide)) <| okY rfl (LT_shift rfl (.inr rfl) rfl rfl (shrI (l.getD (i + 1) 0) 0 1 (by decide) (by decide))) <| okY rfl (LT_conv rfl Tryz.underlying3 Tryz.underlying5 rfl (IntKind.wrap_u8 _)) <| okY rfl (LT_buildSliceD [.d (.int .u8 (((l.getD (i + 1) 0) / 1) % 256))] ([(((l.getD (i + 1) 0) / 1) % 256)].map (.int .u8)) rfl Tryz.underlying23 inf5 rfl rfl 1 rfl (by decide) (by decide) rfl rfl (by decide) rfl (by kernel_rfl) rfl) <| okY rfl (LT_append 10 rfl Tryz.underlying23 inf5 rfl rfl rfl (by decide) rfl rfl rfl (List.Mem.head _) (List.Mem.head _) rfl rfl (by show _ = ((((n + 4 * (i + 1)) + 1) + 1) + 1) * 1; simp [u8D, be4L_len (show (i + 1) ≤ l.length by omega)]; omega) (by omega) (by omega) (by show (_ + _) * 1 ≤ _; omega) ((u8D (ns ++ be4L l (i + 1) ++ [(l.getD (i + 1) 0) / 16777216 % 256, (l.getD (i + 1) 0) / 65536 % 256, (l.getD (i + 1) 0) / 256 % 256, (l.getD (i + 1) 0) / 1 % 256])).map X.d) (by simp [u8D]) (((((n + 4 * (i + 1)) + 1) + 1) + 1) + 1) rfl) <| okY rfl (LT_nilCheck rfl rfl) <| okY rfl (LT_fieldAddr rfl rfl Tryz.underlying100 rfl inf23 (by decide) _ rfl) <| okY rfl (LT_store (ob := ⟨102, 1, [.own 9 ((((n + 4 * (i + 1)) + 1) + 1) + 1) 1]⟩) (x := .own 10 (((((n + 4 * (i + 1)) + 1) + 1) + 1) + 1) 1) rfl rfl rfl (List.Mem.head _) inf23 rfl rfl rfl (by simp [X.cells]) _ rfl) <| okE
      change AW _ _ _ _ _ _
      refine aw_weak (weak_of [(0, .ptr 1 0), (1, .d (.int .i64 4)), (9, .d (.sl m 1 (intsD l))), (10, .d (.int .i64 ((m : Nat) : Int))), (11, .d (.int .i64 (((i + 1) : Nat) : Int))), (7, .d (.int .i64 (l.getD (i + 1) 0))), (8, .d (.int .i64 0))] [(1, some ⟨102, 1, [.own 10 (((((n + 4 * (i + 1)) + 1) + 1) + 1) + 1) 1]⟩), (10, some ⟨5, 1, (u8D (ns ++ be4L l (i + 1) ++ [(l.getD (i + 1) 0) / 16777216 % 256, (l.getD (i + 1) 0) / 65536 % 256, (l.getD (i + 1) 0) / 256 % 256, (l.getD (i + 1) 0) / 1 % 256])).map X.d⟩)] [1, 10] (sE rfl (sE rfl (sE rfl (sE rfl (sE rfl (sE rfl (sE rfl sE0))))))) (sH rfl (sH rfl sH0)) (by simp only [Heap.ids, idsL_d, List.nil_append]; kernel_rfl)) ?_
      refine aw_region_seq [⟨.d (.int .i64 0), [], [], []⟩, ⟨.d (.int .i64 (-1)), [], [], []⟩, ⟨.d (.int .i64 (-1)), [], [], []⟩] (by kernel_rfl) (by kernel_rfl) (fun id h => hG id (by simp [ks] at h ⊢ <;> omega)) ?_ ?_
      · exact okY rfl (LT_move rfl rfl) <| okY rfl (LT_sub rfl rfl rfl (by decide)) <| okY rfl (LT_assign rfl rfl) <| okE
      change AW _ _ _ _ _ _
      refine aw_weak (weak_of [(0, .ptr 1 0), (1, .d (.int .i64 4)), (9, .d (.sl m 1 (intsD l))), (10, .d (.int .i64 ((m : Nat) : Int))), (11, .d (.int .i64 (((i + 1) : Nat) : Int))), (7, .d (.int .i64 (l.getD (i + 1) 0))), (8, .d (.int .i64 (-1)))] [(1, some ⟨102, 1, [.own 10 (((((n + 4 * (i + 1)) + 1) + 1) + 1) + 1) 1]⟩), (10, some ⟨5, 1, (u8D (ns ++ be4L l (i + 1) ++ [(l.getD (i + 1) 0) / 16777216 % 256, (l.getD (i + 1) 0) / 65536 % 256, (l.getD (i + 1) 0) / 256 % 256, (l.getD (i + 1) 0) / 1 % 256])).map X.d⟩)] [1, 10] (sE rfl (sE rfl (sE rfl (sE rfl (sE rfl (sE rfl (sE rfl sE0))))))) (sH rfl (sH rfl sH0)) (by simp only [Heap.ids, idsL_d, List.nil_append]; kernel_rfl)) ?_
      refine aw_seq ?_
      refine aw_seq ?_
      refine aw_region_seq [⟨.d (.int .i64 (-1)), [], [], []⟩, ⟨.d (.bool false), [], [], []⟩] (by kernel_rfl) (by kernel_rfl) (fun id h => hG id (by simp [ks] at h ⊢ <;> omega)) ?_ ?_
      · exact okY rfl (LT_move rfl rfl) <| okY rfl (LT_cmp rfl rfl rfl rfl rfl) <| okE
      change AW _ _ _ _ _ _
      refine aw_weak (weak_of [(0, .ptr 1 0), (1, .d (.int .i64 4)), (9, .d (.sl m 1 (intsD l))), (10, .d (.int .i64 ((m : Nat) : Int))), (11, .d (.int .i64 (((i + 1) : Nat) : Int))), (7, .d (.int .i64 (l.getD (i + 1) 0))), (8, .d (.int .i64 (-1))), (18, .d (.bool false))] [(1, some ⟨102, 1, [.own 10 (((((n + 4 * (i + 1)) + 1) + 1) + 1) + 1) 1]⟩), (10, some ⟨5, 1, (u8D (ns ++ be4L l (i + 1) ++ [(l.getD (i + 1) 0) / 16777216 % 256, (l.getD (i + 1) 0) / 65536 % 256, (l.getD (i + 1) 0) / 256 % 256, (l.getD (i + 1) 0) / 1 % 256])).map X.d⟩)] [1, 10] (sE rfl (sE rfl (sE rfl (sE rfl (sE rfl (sE rfl (sE rfl (sE rfl sE0)))))))) (sH rfl (sH rfl sH0)) (by simp only [Heap.ids, idsL_d, List.nil_append]; kernel_rfl)) ?_
      refine aw_condF rfl ?_
      refine aw_exit ?_
      change AW _ _ _ _ _ _
      refine aw_weak (weak_of [(0, .ptr 1 0), (1, .d (.int .i64 4)), (9, .d (.sl m 1 (intsD l))), (10, .d (.int .i64 ((m : Nat) : Int))), (11, .d (.int .i64 (((i + 1) : Nat) : Int)))] [(1, some ⟨102, 1, [.own 10 (((((n + 4 * (i + 1)) + 1) + 1) + 1) + 1) 1]⟩), (10, some ⟨5, 1, (u8D (ns ++ be4L l (i + 1) ++ [(l.getD (i + 1) 0) / 16777216 % 256, (l.getD (i + 1) 0) / 65536 % 256, (l.getD (i + 1) 0) / 256 % 256, (l.getD (i + 1) 0) / 1 % 256])).map X.d⟩)] [1, 10] (sE rfl (sE rfl (sE rfl (sE rfl (sE rfl sE0))))) (sH rfl (sH rfl sH0)) (by simp only [Heap.ids, idsL_d, List.nil_append]; kernel_rfl)) ?_
      refine aw_region_seq [⟨.d (.int .i64 ((((i + 1) : Nat) : Int) + 1)), [], [], []⟩, ⟨.d (.int .i64 ((((i + 1) : Nat) : Int) + 1)), [], [], []⟩] (by kernel_rfl) (by kernel_rfl) (fun id h => hG id (by simp [ks] at h ⊢ <;> omega)) ?_ ?_
      · exact okY rfl (LT_add rfl rfl rfl (wi64 (by omega) (by omega))) <| okY rfl (LT_move rfl rfl) <| okE
      refine ⟨(i + 1 + 1), by omega, by omega, ((weak_of [(0, .ptr 1 0), (1, .d (.int .i64 4)), (9, .d (.sl m 1 (intsD l))), (10, .d (.int .i64 ((m : Nat) : Int))), (11, .d (.int .i64 ((((i + 1) : Nat) : Int) + 1)))] [(1, some ⟨102, 1, [.own 10 (((((n + 4 * (i + 1)) + 1) + 1) + 1) + 1) 1]⟩), (10, some ⟨5, 1, (u8D (ns ++ be4L l (i + 1) ++ [(l.getD (i + 1) 0) / 16777216 % 256, (l.getD (i + 1) 0) / 65536 % 256, (l.getD (i + 1) 0) / 256 % 256, (l.getD (i + 1) 0) / 1 % 256])).map X.d⟩)] [1, 10] (sE rfl (sE rfl (sE rfl (sE rfl (sE rfl sE0))))) (sH rfl (sH rfl sH0)) (by simp only [Heap.ids, idsL_d, List.nil_append]; kernel_rfl)).trans (weak_swap2 (hG 10 (by simp [ks])) (hG 90 (by simp [ks])))).trans ?_⟩
      exact weak_of _ _ _ (sE rfl (sE rfl (sE rfl (sE rfl (sE rfl sE0))))) (sH rfl (sH (by rw [be4L_s (show i + 1 < l.length by omega)]; simp [look, renU, Ob.ren, X.ren, ren_d, sw, be4]) sH0)) (by simp only [Heap.ids, idsL_d, List.nil_append]; kernel_rfl)
    ·
      replace hb2 := of_decide_eq_false hb2
      obtain rfl : i + 1 = m := by omega
      refine aw_exit ?_
      refine ⟨?_, (sH rfl (sH rfl sH0))⟩
      refine finN (xs := []) (l := []) (.inr rfl) Tryz.results116 (rL0) (by simp) ?_
      exact rfl

end Go.Proofs.YtaacgmcgmljjeaaGreat

/- The buffer of the tag layer, as its callers see it. -/
namespace Go.Proofs.YtaacgmcgmljjeaaGreat
open Go.RowKit

theorem text1' (B A C : Nat) (hBA : B ≠ A) (hBC : B ≠ C) (hAC : A ≠ C) (s : ByteArray) (hs0 : 0 < s.size) (hs : s.size ≤ 1000000) {n : Nat} {ns : List Int} (hn : ns.length = n) (hbig : n ≤ 1000000) {H : Heap} (hB : look H B = some ⟨102, 1, [.own A n 1]⟩) (hA : look H A = some ⟨5, 1, (u8D ns).map X.d⟩) :
    CT Tryz.prog 79 [.ptr B 0, .d (.str s)] H [B, A] [C] [(B, some ⟨102, 1, [.own C (n + s.size) 1]⟩), (C, some ⟨5, 1, (u8D (ns ++ octs s)).map X.d⟩), (A, none)] (.tup []) := by
  have h := text1 (fun j => if j = 1 then B else if j = 2 then A else C) (H := H) s hs0 hs n ns hn hbig ⟨⟨rfl, hB⟩, ⟨rfl, by
    show look H A = _
    rw [hA]
    simp [Ob.ren, X.ren]⟩, trivial⟩ (show ([B, A, C] : List Nat).Nodup by simp [hBA, hBC, hAC])
  have e : updOf (fun j => if j = 1 then B else if j = 2 then A else C) [(1, some (⟨102, 1, [.own 2 n 1]⟩ : Ob)), (2, some ⟨5, 1, (u8D ns).map X.d⟩)] [(1, some ⟨102, 1, [.own 3 (n + s.size) 1]⟩), (3, some ⟨5, 1, (u8D (ns ++ octs s)).map X.d⟩)]
      = [(B, some ⟨102, 1, [.own C (n + s.size) 1]⟩), (C, some ⟨5, 1, (u8D (ns ++ octs s)).map X.d⟩), (A, none)] := by
    simp [updOf, renU, goneL, ks, Ob.ren, X.ren]
  rw [e] at h
  exact h

theorem put1' (B A C : Nat) (hBA : B ≠ A) (hBC : B ≠ C) (hAC : A ≠ C) (v : Int) {n : Nat} {ns : List Int} (hn : ns.length = n) (hbig : n ≤ 1000000) {H : Heap} (hB : look H B = some ⟨102, 1, [.own A n 1]⟩) (hA : look H A = some ⟨5, 1, (u8D ns).map X.d⟩) :
    CT Tryz.prog 116 [.ptr B 0, .d (.int .i64 1), .d (.sl 1 1 ([v].map (.int .i64)))] H [B, A] [C] [(B, some ⟨102, 1, [.own C (n + 1) 1]⟩), (C, some ⟨5, 1, (u8D (ns ++ [(v / 1) % 256])).map X.d⟩), (A, none)] (.tup []) := by
  have h := put1 (fun j => if j = 1 then B else if j = 2 then A else C) (H := H) v n ns hn hbig ⟨⟨rfl, hB⟩, ⟨rfl, by
    show look H A = _
    rw [hA]
    simp [Ob.ren, X.ren]⟩, trivial⟩ (show ([B, A, C] : List Nat).Nodup by simp [hBA, hBC, hAC])
  have e : updOf (fun j => if j = 1 then B else if j = 2 then A else C) [(1, some (⟨102, 1, [.own 2 n 1]⟩ : Ob)), (2, some ⟨5, 1, (u8D ns).map X.d⟩)] [(1, some ⟨102, 1, [.own 3 (n + 1) 1]⟩), (3, some ⟨5, 1, (u8D (ns ++ [(v / 1) % 256])).map X.d⟩)]
      = [(B, some ⟨102, 1, [.own C (n + 1) 1]⟩), (C, some ⟨5, 1, (u8D (ns ++ [(v / 1) % 256])).map X.d⟩), (A, none)] := by
    simp [updOf, renU, goneL, ks, Ob.ren, X.ren]
  rw [e] at h
  exact h

theorem put2' (B A C : Nat) (hBA : B ≠ A) (hBC : B ≠ C) (hAC : A ≠ C) (v : Int) {n : Nat} {ns : List Int} (hn : ns.length = n) (hbig : n ≤ 1000000) {H : Heap} (hB : look H B = some ⟨102, 1, [.own A n 1]⟩) (hA : look H A = some ⟨5, 1, (u8D ns).map X.d⟩) :
    CT Tryz.prog 116 [.ptr B 0, .d (.int .i64 2), .d (.sl 1 1 ([v].map (.int .i64)))] H [B, A] [C] [(B, some ⟨102, 1, [.own C (n + 2) 1]⟩), (C, some ⟨5, 1, (u8D (ns ++ [(v / 256) % 256, (v / 1) % 256])).map X.d⟩), (A, none)] (.tup []) := by
  have h := put2 (fun j => if j = 1 then B else if j = 2 then A else C) (H := H) v n ns hn hbig ⟨⟨rfl, hB⟩, ⟨rfl, by
    show look H A = _
    rw [hA]
    simp [Ob.ren, X.ren]⟩, trivial⟩ (show ([B, A, C] : List Nat).Nodup by simp [hBA, hBC, hAC])
  have e : updOf (fun j => if j = 1 then B else if j = 2 then A else C) [(1, some (⟨102, 1, [.own 2 n 1]⟩ : Ob)), (2, some ⟨5, 1, (u8D ns).map X.d⟩)] [(1, some ⟨102, 1, [.own 4 (n + 2) 1]⟩), (4, some ⟨5, 1, (u8D (ns ++ [(v / 256) % 256, (v / 1) % 256])).map X.d⟩)]
      = [(B, some ⟨102, 1, [.own C (n + 2) 1]⟩), (C, some ⟨5, 1, (u8D (ns ++ [(v / 256) % 256, (v / 1) % 256])).map X.d⟩), (A, none)] := by
    simp [updOf, renU, goneL, ks, Ob.ren, X.ren]
  rw [e] at h
  exact h

theorem put4' (B A C : Nat) (hBA : B ≠ A) (hBC : B ≠ C) (hAC : A ≠ C) (l : List Int) (m : Nat) (hlm : l.length = m) (hl0 : 0 < m) (hl : m ≤ 1000) {n : Nat} {ns : List Int} (hn : ns.length = n) (hbig : n ≤ 1000000) {H : Heap} (hB : look H B = some ⟨102, 1, [.own A n 1]⟩) (hA : look H A = some ⟨5, 1, (u8D ns).map X.d⟩) :
    CT Tryz.prog 116 [.ptr B 0, .d (.int .i64 4), .d (.sl m 1 (intsD l))] H [B, A] [C] [(B, some ⟨102, 1, [.own C (n + 4 * m) 1]⟩), (C, some ⟨5, 1, (u8D (ns ++ be4L l m)).map X.d⟩), (A, none)] (.tup []) := by
  have h := put4 (fun j => if j = 1 then B else if j = 2 then A else C) (H := H) l m hlm hl0 hl n ns hn hbig ⟨⟨rfl, hB⟩, ⟨rfl, by
    show look H A = _
    rw [hA]
    simp [Ob.ren, X.ren]⟩, trivial⟩ (show ([B, A, C] : List Nat).Nodup by simp [hBA, hBC, hAC])
  have e : updOf (fun j => if j = 1 then B else if j = 2 then A else C) [(1, some (⟨102, 1, [.own 2 n 1]⟩ : Ob)), (2, some ⟨5, 1, (u8D ns).map X.d⟩)] [(1, some ⟨102, 1, [.own 90 (n + 4 * m) 1]⟩), (90, some ⟨5, 1, (u8D (ns ++ be4L l m)).map X.d⟩)]
      = [(B, some ⟨102, 1, [.own C (n + 4 * m) 1]⟩), (C, some ⟨5, 1, (u8D (ns ++ be4L l m)).map X.d⟩), (A, none)] := by
    simp [updOf, renU, goneL, ks, Ob.ren, X.ren]
  rw [e] at h
  exact h

end Go.Proofs.YtaacgmcgmljjeaaGreat
