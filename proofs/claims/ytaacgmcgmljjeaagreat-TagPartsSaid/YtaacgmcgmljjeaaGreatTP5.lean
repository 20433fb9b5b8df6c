/-
  Joined texts: The writer's methods. · Lists that are counted. · The calculus of states: a block of octets as a string. · A tag is written. · tag.Check of a text and of numbers. · tag.Bytes of a text and of numbers.
-/
import Derived.Test.YtaacgmcgmljjeaaGreatTP4
import Derived.Test.YtaacgmcgmljjeaaGreatTP3
set_option linter.unusedSimpArgs false
set_option linter.unusedVariables false

/- The writer's methods. -/
namespace Go.Proofs.YtaacgmcgmljjeaaGreat
open Go.RowKit

set_option maxRecDepth 100000 in
set_option maxHeartbeats 2000000 in
theorem u8 (σ : Nat → Nat) {H : Heap} (v : Int) (n : Nat) (ns : List Int) (hn : ns.length = n) (hbig : n ≤ 1000000) (hH : subR σ [(1, some ⟨102, 1, [.own 2 n 1]⟩), (2, some ⟨5, 1, (u8D ns).map X.d⟩)] H) (hinj : ((ks [(1, some ⟨102, 1, [.own 2 n 1]⟩), (2, some ⟨5, 1, (u8D ns).map X.d⟩)] ++ newL [(1, some ⟨102, 1, [.own 2 n 1]⟩), (2, some ⟨5, 1, (u8D ns).map X.d⟩)] [(1, some ⟨102, 1, [.own 3 (n + 1) 1]⟩), (3, some ⟨5, 1, (u8D (ns ++ [(v / 1) % 256])).map X.d⟩)]).map σ).Nodup) : CT Tryz.prog 80 ([.ptr 1 0, .d (.sl 1 1 ([v].map (.int .i64)))].map (X.ren σ)) H ((ks [(1, some ⟨102, 1, [.own 2 n 1]⟩), (2, some ⟨5, 1, (u8D ns).map X.d⟩)]).map σ) ((newL [(1, some ⟨102, 1, [.own 2 n 1]⟩), (2, some ⟨5, 1, (u8D ns).map X.d⟩)] [(1, some ⟨102, 1, [.own 3 (n + 1) 1]⟩), (3, some ⟨5, 1, (u8D (ns ++ [(v / 1) % 256])).map X.d⟩)]).map σ) (updOf σ [(1, some ⟨102, 1, [.own 2 n 1]⟩), (2, some ⟨5, 1, (u8D ns).map X.d⟩)] [(1, some ⟨102, 1, [.own 3 (n + 1) 1]⟩), (3, some ⟨5, 1, (u8D (ns ++ [(v / 1) % 256])).map X.d⟩)]) (X.ren σ (.tup [])) := by
  refine CT_of (fn := Tryz.f80) (rl := .tup []) σ [(1, some ⟨102, 1, [.own 2 n 1]⟩), (2, some ⟨5, 1, (u8D ns).map X.d⟩)] [(1, some ⟨102, 1, [.own 3 (n + 1) 1]⟩), (3, some ⟨5, 1, (u8D (ns ++ [(v / 1) % 256])).map X.d⟩)] Tryz.func80 rfl (by simp [Tryz.ntmps80]) hH hinj (by simp [Heap.ids, X.idsL, X.ids, idsL_d, ks]) (by simp [Heap.ids, X.idsL, X.ids, idsL_d, ks]) (fun j o h1 h2 => by simp [ks] at h1; rcases h1 with rfl | rfl <;> simp [look] at h2 <;> subst h2 <;> simp) fun G hG => ?_
  rw [Tryz.ntmps80]
  change AW _ _ _ _ ⟨[(0, .ptr 1 0), (1, .d (.sl 1 1 ([v].map (.int .i64))))], [(1, some ⟨102, 1, [.own 2 n 1]⟩), (2, some ⟨5, 1, (u8D ns).map X.d⟩)], [1, 2]⟩ _
  refine aw_region_seq [⟨.ptr 1 0, [], [], []⟩, ⟨.ptr 1 0, [], [], []⟩, ⟨.ptr 1 0, [], [], []⟩, ⟨.d (.sl 1 1 ([v].map (.int .i64))), [], [], []⟩, ⟨.tup [], [(1, some ⟨102, 1, [.own 3 (n + 1) 1]⟩), (3, some ⟨5, 1, (u8D (ns ++ [(v / 1) % 256])).map X.d⟩), (2, none)], [3], [1, 2]⟩] (by kernel_rfl) (by kernel_rfl) (fun id h => hG id (by simp [ks] at h ⊢ <;> omega)) ?_ ?_
  · exact okY rfl (LT_move rfl rfl) <| okY rfl (LT_nilCheck rfl rfl) <| okY rfl (LT_fieldAddr rfl rfl Tryz.underlying102 rfl inf100 (by decide) _ rfl) <| okY rfl (LT_move rfl rfl) <| okY rfl (LT_call [.ptr 1 0, .d (.int .i64 1), .d (.sl 1 1 ([v].map (.int .i64)))] rfl rfl Tryz.call116 rfl (put1' 1 2 3 (by decide) (by decide) (by decide) v (n := n) (ns := ns) hn (by omega) rfl rfl)) <| okE
  refine ⟨?_, (sH rfl (sH rfl sH0))⟩
  refine finN (xs := []) (l := []) (.inr rfl) Tryz.results80 (rL0) (by simp) ?_
  exact rfl

theorem u8' (B A C : Nat) (hBA : B ≠ A) (hBC : B ≠ C) (hAC : A ≠ C) (v : Int) {n : Nat} {ns : List Int} (hn : ns.length = n) (hbig : n ≤ 1000000) {H : Heap} (hB : look H B = some ⟨102, 1, [.own A n 1]⟩) (hA : look H A = some ⟨5, 1, (u8D ns).map X.d⟩) :
    CT Tryz.prog 80 [.ptr B 0, .d (.sl 1 1 ([v].map (.int .i64)))] H [B, A] [C] [(B, some ⟨102, 1, [.own C (n + 1) 1]⟩), (C, some ⟨5, 1, (u8D (ns ++ [(v / 1) % 256])).map X.d⟩), (A, none)] (.tup []) := by
  have h := u8 (fun j => if j = 1 then B else if j = 2 then A else C) (H := H) v n ns hn hbig ⟨⟨rfl, hB⟩, ⟨rfl, by
    show look H A = _
    rw [hA]
    simp [Ob.ren, X.ren]⟩, trivial⟩ (show ([B, A, C] : List Nat).Nodup by simp [hBA, hBC, hAC])
  have e : updOf (fun j => if j = 1 then B else if j = 2 then A else C) [(1, some (⟨102, 1, [.own 2 n 1]⟩ : Ob)), (2, some ⟨5, 1, (u8D ns).map X.d⟩)] [(1, some ⟨102, 1, [.own 3 (n + 1) 1]⟩), (3, some ⟨5, 1, (u8D (ns ++ [(v / 1) % 256])).map X.d⟩)]
      = [(B, some ⟨102, 1, [.own C (n + 1) 1]⟩), (C, some ⟨5, 1, (u8D (ns ++ [(v / 1) % 256])).map X.d⟩), (A, none)] := by
    simp [updOf, renU, goneL, ks, Ob.ren, X.ren]
  rw [e] at h
  exact h

set_option maxRecDepth 100000 in
set_option maxHeartbeats 2000000 in
theorem u16 (σ : Nat → Nat) {H : Heap} (v : Int) (n : Nat) (ns : List Int) (hn : ns.length = n) (hbig : n ≤ 1000000) (hH : subR σ [(1, some ⟨102, 1, [.own 2 n 1]⟩), (2, some ⟨5, 1, (u8D ns).map X.d⟩)] H) (hinj : ((ks [(1, some ⟨102, 1, [.own 2 n 1]⟩), (2, some ⟨5, 1, (u8D ns).map X.d⟩)] ++ newL [(1, some ⟨102, 1, [.own 2 n 1]⟩), (2, some ⟨5, 1, (u8D ns).map X.d⟩)] [(1, some ⟨102, 1, [.own 3 (n + 2) 1]⟩), (3, some ⟨5, 1, (u8D (ns ++ [(v / 256) % 256, (v / 1) % 256])).map X.d⟩)]).map σ).Nodup) : CT Tryz.prog 81 ([.ptr 1 0, .d (.sl 1 1 ([v].map (.int .i64)))].map (X.ren σ)) H ((ks [(1, some ⟨102, 1, [.own 2 n 1]⟩), (2, some ⟨5, 1, (u8D ns).map X.d⟩)]).map σ) ((newL [(1, some ⟨102, 1, [.own 2 n 1]⟩), (2, some ⟨5, 1, (u8D ns).map X.d⟩)] [(1, some ⟨102, 1, [.own 3 (n + 2) 1]⟩), (3, some ⟨5, 1, (u8D (ns ++ [(v / 256) % 256, (v / 1) % 256])).map X.d⟩)]).map σ) (updOf σ [(1, some ⟨102, 1, [.own 2 n 1]⟩), (2, some ⟨5, 1, (u8D ns).map X.d⟩)] [(1, some ⟨102, 1, [.own 3 (n + 2) 1]⟩), (3, some ⟨5, 1, (u8D (ns ++ [(v / 256) % 256, (v / 1) % 256])).map X.d⟩)]) (X.ren σ (.tup [])) := by
  refine CT_of (fn := Tryz.f81) (rl := .tup []) σ [(1, some ⟨102, 1, [.own 2 n 1]⟩), (2, some ⟨5, 1, (u8D ns).map X.d⟩)] [(1, some ⟨102, 1, [.own 3 (n + 2) 1]⟩), (3, some ⟨5, 1, (u8D (ns ++ [(v / 256) % 256, (v / 1) % 256])).map X.d⟩)] Tryz.func81 rfl (by simp [Tryz.ntmps81]) hH hinj (by simp [Heap.ids, X.idsL, X.ids, idsL_d, ks]) (by simp [Heap.ids, X.idsL, X.ids, idsL_d, ks]) (fun j o h1 h2 => by simp [ks] at h1; rcases h1 with rfl | rfl <;> simp [look] at h2 <;> subst h2 <;> simp) fun G hG => ?_
  rw [Tryz.ntmps81]
  change AW _ _ _ _ ⟨[(0, .ptr 1 0), (1, .d (.sl 1 1 ([v].map (.int .i64))))], [(1, some ⟨102, 1, [.own 2 n 1]⟩), (2, some ⟨5, 1, (u8D ns).map X.d⟩)], [1, 2]⟩ _
  refine aw_region_seq [⟨.ptr 1 0, [], [], []⟩, ⟨.ptr 1 0, [], [], []⟩, ⟨.ptr 1 0, [], [], []⟩, ⟨.d (.sl 1 1 ([v].map (.int .i64))), [], [], []⟩, ⟨.tup [], [(1, some ⟨102, 1, [.own 3 (n + 2) 1]⟩), (3, some ⟨5, 1, (u8D (ns ++ [(v / 256) % 256, (v / 1) % 256])).map X.d⟩), (2, none)], [3], [1, 2]⟩] (by kernel_rfl) (by kernel_rfl) (fun id h => hG id (by simp [ks] at h ⊢ <;> omega)) ?_ ?_
  · exact okY rfl (LT_move rfl rfl) <| okY rfl (LT_nilCheck rfl rfl) <| okY rfl (LT_fieldAddr rfl rfl Tryz.underlying102 rfl inf100 (by decide) _ rfl) <| okY rfl (LT_move rfl rfl) <| okY rfl (LT_call [.ptr 1 0, .d (.int .i64 2), .d (.sl 1 1 ([v].map (.int .i64)))] rfl rfl Tryz.call116 rfl (put2' 1 2 3 (by decide) (by decide) (by decide) v (n := n) (ns := ns) hn (by omega) rfl rfl)) <| okE
  refine ⟨?_, (sH rfl (sH rfl sH0))⟩
  refine finN (xs := []) (l := []) (.inr rfl) Tryz.results81 (rL0) (by simp) ?_
  exact rfl

theorem u16' (B A C : Nat) (hBA : B ≠ A) (hBC : B ≠ C) (hAC : A ≠ C) (v : Int) {n : Nat} {ns : List Int} (hn : ns.length = n) (hbig : n ≤ 1000000) {H : Heap} (hB : look H B = some ⟨102, 1, [.own A n 1]⟩) (hA : look H A = some ⟨5, 1, (u8D ns).map X.d⟩) :
    CT Tryz.prog 81 [.ptr B 0, .d (.sl 1 1 ([v].map (.int .i64)))] H [B, A] [C] [(B, some ⟨102, 1, [.own C (n + 2) 1]⟩), (C, some ⟨5, 1, (u8D (ns ++ [(v / 256) % 256, (v / 1) % 256])).map X.d⟩), (A, none)] (.tup []) := by
  have h := u16 (fun j => if j = 1 then B else if j = 2 then A else C) (H := H) v n ns hn hbig ⟨⟨rfl, hB⟩, ⟨rfl, by
    show look H A = _
    rw [hA]
    simp [Ob.ren, X.ren]⟩, trivial⟩ (show ([B, A, C] : List Nat).Nodup by simp [hBA, hBC, hAC])
  have e : updOf (fun j => if j = 1 then B else if j = 2 then A else C) [(1, some (⟨102, 1, [.own 2 n 1]⟩ : Ob)), (2, some ⟨5, 1, (u8D ns).map X.d⟩)] [(1, some ⟨102, 1, [.own 3 (n + 2) 1]⟩), (3, some ⟨5, 1, (u8D (ns ++ [(v / 256) % 256, (v / 1) % 256])).map X.d⟩)]
      = [(B, some ⟨102, 1, [.own C (n + 2) 1]⟩), (C, some ⟨5, 1, (u8D (ns ++ [(v / 256) % 256, (v / 1) % 256])).map X.d⟩), (A, none)] := by
    simp [updOf, renU, goneL, ks, Ob.ren, X.ren]
  rw [e] at h
  exact h

set_option maxRecDepth 100000 in
set_option maxHeartbeats 2000000 in
theorem s32 (σ : Nat → Nat) {H : Heap} (l : List Int) (m : Nat) (hlm : l.length = m) (hl0 : 0 < m) (hl : m ≤ 1000) (n : Nat) (ns : List Int) (hn : ns.length = n) (hbig : n ≤ 1000000) (hH : subR σ [(1, some ⟨102, 1, [.own 2 n 1]⟩), (2, some ⟨5, 1, (u8D ns).map X.d⟩)] H) (hinj : ((ks [(1, some ⟨102, 1, [.own 2 n 1]⟩), (2, some ⟨5, 1, (u8D ns).map X.d⟩)] ++ newL [(1, some ⟨102, 1, [.own 2 n 1]⟩), (2, some ⟨5, 1, (u8D ns).map X.d⟩)] [(1, some ⟨102, 1, [.own 3 (n + 4 * m) 1]⟩), (3, some ⟨5, 1, (u8D (ns ++ be4L l m)).map X.d⟩)]).map σ).Nodup) : CT Tryz.prog 83 ([.ptr 1 0, .d (.sl m 1 (intsD l))].map (X.ren σ)) H ((ks [(1, some ⟨102, 1, [.own 2 n 1]⟩), (2, some ⟨5, 1, (u8D ns).map X.d⟩)]).map σ) ((newL [(1, some ⟨102, 1, [.own 2 n 1]⟩), (2, some ⟨5, 1, (u8D ns).map X.d⟩)] [(1, some ⟨102, 1, [.own 3 (n + 4 * m) 1]⟩), (3, some ⟨5, 1, (u8D (ns ++ be4L l m)).map X.d⟩)]).map σ) (updOf σ [(1, some ⟨102, 1, [.own 2 n 1]⟩), (2, some ⟨5, 1, (u8D ns).map X.d⟩)] [(1, some ⟨102, 1, [.own 3 (n + 4 * m) 1]⟩), (3, some ⟨5, 1, (u8D (ns ++ be4L l m)).map X.d⟩)]) (X.ren σ (.tup [])) := by
  refine CT_of (fn := Tryz.f83) (rl := .tup []) σ [(1, some ⟨102, 1, [.own 2 n 1]⟩), (2, some ⟨5, 1, (u8D ns).map X.d⟩)] [(1, some ⟨102, 1, [.own 3 (n + 4 * m) 1]⟩), (3, some ⟨5, 1, (u8D (ns ++ be4L l m)).map X.d⟩)] Tryz.func83 rfl (by simp [Tryz.ntmps83]) hH hinj (by simp [Heap.ids, X.idsL, X.ids, idsL_d, ks]) (by simp [Heap.ids, X.idsL, X.ids, idsL_d, ks]) (fun j o h1 h2 => by simp [ks] at h1; rcases h1 with rfl | rfl <;> simp [look] at h2 <;> subst h2 <;> simp) fun G hG => ?_
  rw [Tryz.ntmps83]
  change AW _ _ _ _ ⟨[(0, .ptr 1 0), (1, .d (.sl m 1 (intsD l)))], [(1, some ⟨102, 1, [.own 2 n 1]⟩), (2, some ⟨5, 1, (u8D ns).map X.d⟩)], [1, 2]⟩ _
  refine aw_region_seq [⟨.ptr 1 0, [], [], []⟩, ⟨.ptr 1 0, [], [], []⟩, ⟨.ptr 1 0, [], [], []⟩, ⟨.d (.sl m 1 (intsD l)), [], [], []⟩, ⟨.tup [], [(1, some ⟨102, 1, [.own 3 (n + 4 * m) 1]⟩), (3, some ⟨5, 1, (u8D (ns ++ be4L l m)).map X.d⟩), (2, none)], [3], [1, 2]⟩] (by kernel_rfl) (by kernel_rfl) (fun id h => hG id (by simp [ks] at h ⊢ <;> omega)) ?_ ?_
  · exact okY rfl (LT_move rfl rfl) <| okY rfl (LT_nilCheck rfl rfl) <| okY rfl (LT_fieldAddr rfl rfl Tryz.underlying102 rfl inf100 (by decide) _ rfl) <| okY rfl (LT_move rfl rfl) <| okY rfl (LT_call [.ptr 1 0, .d (.int .i64 4), .d (.sl m 1 (intsD l))] rfl rfl Tryz.call116 rfl (put4' 1 2 3 (by decide) (by decide) (by decide) l m hlm hl0 hl (n := n) (ns := ns) hn (by omega) rfl rfl)) <| okE
  refine ⟨?_, (sH rfl (sH rfl sH0))⟩
  refine finN (xs := []) (l := []) (.inr rfl) Tryz.results83 (rL0) (by simp) ?_
  exact rfl

theorem s32' (B A C : Nat) (hBA : B ≠ A) (hBC : B ≠ C) (hAC : A ≠ C) (l : List Int) (m : Nat) (hlm : l.length = m) (hl0 : 0 < m) (hl : m ≤ 1000) {n : Nat} {ns : List Int} (hn : ns.length = n) (hbig : n ≤ 1000000) {H : Heap} (hB : look H B = some ⟨102, 1, [.own A n 1]⟩) (hA : look H A = some ⟨5, 1, (u8D ns).map X.d⟩) :
    CT Tryz.prog 83 [.ptr B 0, .d (.sl m 1 (intsD l))] H [B, A] [C] [(B, some ⟨102, 1, [.own C (n + 4 * m) 1]⟩), (C, some ⟨5, 1, (u8D (ns ++ be4L l m)).map X.d⟩), (A, none)] (.tup []) := by
  have h := s32 (fun j => if j = 1 then B else if j = 2 then A else C) (H := H) l m hlm hl0 hl n ns hn hbig ⟨⟨rfl, hB⟩, ⟨rfl, by
    show look H A = _
    rw [hA]
    simp [Ob.ren, X.ren]⟩, trivial⟩ (show ([B, A, C] : List Nat).Nodup by simp [hBA, hBC, hAC])
  have e : updOf (fun j => if j = 1 then B else if j = 2 then A else C) [(1, some (⟨102, 1, [.own 2 n 1]⟩ : Ob)), (2, some ⟨5, 1, (u8D ns).map X.d⟩)] [(1, some ⟨102, 1, [.own 3 (n + 4 * m) 1]⟩), (3, some ⟨5, 1, (u8D (ns ++ be4L l m)).map X.d⟩)]
      = [(B, some ⟨102, 1, [.own C (n + 4 * m) 1]⟩), (C, some ⟨5, 1, (u8D (ns ++ be4L l m)).map X.d⟩), (A, none)] := by
    simp [updOf, renU, goneL, ks, Ob.ren, X.ren]
  rw [e] at h
  exact h

end Go.Proofs.YtaacgmcgmljjeaaGreat

/- Lists that are counted. -/
namespace Go.Proofs.YtaacgmcgmljjeaaGreat
open Go.RowKit

set_option maxRecDepth 100000 in
set_option maxHeartbeats 2000000 in
theorem counted (σ : Nat → Nat) {H : Heap} (l : List Int) (m : Nat) (hlm : l.length = m) (hl0 : 0 < m) (hl : m ≤ 1000) (n : Nat) (ns : List Int) (hn : ns.length = n) (hbig : n ≤ 1000) (hH : subR σ [(1, some ⟨102, 1, [.own 2 n 1]⟩), (2, some ⟨5, 1, (u8D ns).map X.d⟩)] H) (hinj : ((ks [(1, some ⟨102, 1, [.own 2 n 1]⟩), (2, some ⟨5, 1, (u8D ns).map X.d⟩)] ++ newL [(1, some ⟨102, 1, [.own 2 n 1]⟩), (2, some ⟨5, 1, (u8D ns).map X.d⟩)] [(1, some ⟨102, 1, [.own 4 (n + 1 + 4 * m) 1]⟩), (4, some ⟨5, 1, (u8D (ns ++ [((m : Nat) : Int) / 1 % 256] ++ be4L l m)).map X.d⟩)]).map σ).Nodup) : CT Tryz.prog 82 ([.ptr 1 0, .d (.sl m 1 (intsD l)), .d (.fn 83)].map (X.ren σ)) H ((ks [(1, some ⟨102, 1, [.own 2 n 1]⟩), (2, some ⟨5, 1, (u8D ns).map X.d⟩)]).map σ) ((newL [(1, some ⟨102, 1, [.own 2 n 1]⟩), (2, some ⟨5, 1, (u8D ns).map X.d⟩)] [(1, some ⟨102, 1, [.own 4 (n + 1 + 4 * m) 1]⟩), (4, some ⟨5, 1, (u8D (ns ++ [((m : Nat) : Int) / 1 % 256] ++ be4L l m)).map X.d⟩)]).map σ) (updOf σ [(1, some ⟨102, 1, [.own 2 n 1]⟩), (2, some ⟨5, 1, (u8D ns).map X.d⟩)] [(1, some ⟨102, 1, [.own 4 (n + 1 + 4 * m) 1]⟩), (4, some ⟨5, 1, (u8D (ns ++ [((m : Nat) : Int) / 1 % 256] ++ be4L l m)).map X.d⟩)]) (X.ren σ (.tup [])) := by
  refine CT_of (fn := Tryz.f82) (rl := .tup []) σ [(1, some ⟨102, 1, [.own 2 n 1]⟩), (2, some ⟨5, 1, (u8D ns).map X.d⟩)] [(1, some ⟨102, 1, [.own 4 (n + 1 + 4 * m) 1]⟩), (4, some ⟨5, 1, (u8D (ns ++ [((m : Nat) : Int) / 1 % 256] ++ be4L l m)).map X.d⟩)] Tryz.func82 rfl (by simp [Tryz.ntmps82]) hH hinj (by simp [Heap.ids, X.idsL, X.ids, idsL_d, ks]) (by simp [Heap.ids, X.idsL, X.ids, idsL_d, ks]) (fun j o h1 h2 => by simp [ks] at h1; rcases h1 with rfl | rfl <;> simp [look] at h2 <;> subst h2 <;> simp) fun G hG => ?_
  rw [Tryz.ntmps82]
  change AW _ _ _ _ ⟨[(0, .ptr 1 0), (1, .d (.sl m 1 (intsD l))), (2, .d (.fn 83))], [(1, some ⟨102, 1, [.own 2 n 1]⟩), (2, some ⟨5, 1, (u8D ns).map X.d⟩)], [1, 2]⟩ _
  refine aw_seq ?_
  refine aw_region_seq [⟨.ptr 1 0, [], [], []⟩, ⟨.d (.sl m 1 (intsD l)), [], [], []⟩, ⟨.d (.int .i64 ((m : Nat) : Int)), [], [], []⟩, ⟨.d (.sl 1 1 ([((m : Nat) : Int)].map (.int .i64))), [], [], []⟩, ⟨.tup [], [(1, some ⟨102, 1, [.own 3 (n + 1) 1]⟩), (3, some ⟨5, 1, (u8D (ns ++ [(((m : Nat) : Int) / 1) % 256])).map X.d⟩), (2, none)], [3], [1, 2]⟩] (by kernel_rfl) (by kernel_rfl) (fun id h => hG id (by simp [ks] at h ⊢ <;> omega)) ?_ ?_
  · exact okY rfl (LT_move rfl rfl) <| okY rfl (LT_move rfl rfl) <| okY rfl (LT_lenD rfl Tryz.underlying36 rfl) <| okY rfl (LT_buildSliceD [.d (.int .i64 ((m : Nat) : Int))] ([((m : Nat) : Int)].map (.int .i64)) rfl Tryz.underlying36 inf3 rfl rfl 1 rfl (by decide) (by decide) rfl rfl (by decide) rfl (by kernel_rfl) rfl) <| okY rfl (LT_call [.ptr 1 0, .d (.sl 1 1 ([((m : Nat) : Int)].map (.int .i64)))] rfl rfl Tryz.call80 rfl (u8' 1 2 3 (by decide) (by decide) (by decide) ((m : Nat) : Int) (n := n) (ns := ns) hn (by omega) rfl rfl)) <| okE
  change AW _ _ _ _ _ _
  refine aw_weak (weak_of [(0, .ptr 1 0), (1, .d (.sl m 1 (intsD l))), (2, .d (.fn 83))] [(1, some ⟨102, 1, [.own 3 (n + 1) 1]⟩), (3, some ⟨5, 1, (u8D (ns ++ [(((m : Nat) : Int) / 1) % 256])).map X.d⟩)] [1, 3] (sE rfl (sE rfl (sE rfl sE0))) (sH rfl (sH rfl sH0)) (by simp only [Heap.ids, idsL_d, List.nil_append]; kernel_rfl)) ?_
  refine aw_region_seq [⟨.d (.fn 83), [], [], []⟩, ⟨.ptr 1 0, [], [], []⟩, ⟨.d (.sl m 1 (intsD l)), [], [], []⟩, ⟨.tup [], [(1, some ⟨102, 1, [.own 4 ((n + 1) + 4 * m) 1]⟩), (4, some ⟨5, 1, (u8D ((ns ++ [(((m : Nat) : Int) / 1) % 256]) ++ be4L l m)).map X.d⟩), (3, none)], [4], [1, 3]⟩] (by kernel_rfl) (by kernel_rfl) (fun id h => hG id (by simp [ks] at h ⊢ <;> omega)) ?_ ?_
  · exact okY rfl (LT_move rfl rfl) <| okY rfl (LT_move rfl rfl) <| okY rfl (LT_move rfl rfl) <| okY rfl (LT_call [.ptr 1 0, .d (.sl m 1 (intsD l))] rfl rfl Tryz.call83 rfl (s32' 1 3 4 (by decide) (by decide) (by decide) l m hlm hl0 hl (n := (n + 1)) (ns := (ns ++ [(((m : Nat) : Int) / 1) % 256])) (by simp [hn]) (by omega) rfl rfl)) <| okE
  refine ⟨?_, (sH rfl (sH rfl sH0))⟩
  refine finN (xs := []) (l := []) (.inr rfl) Tryz.results82 (rL0) (by simp) ?_
  exact rfl

theorem counted' (B A C : Nat) (hBA : B ≠ A) (hBC : B ≠ C) (hAC : A ≠ C) (l : List Int) (m : Nat) (hlm : l.length = m) (hl0 : 0 < m) (hl : m ≤ 1000) {n : Nat} {ns : List Int} (hn : ns.length = n) (hbig : n ≤ 1000) {H : Heap} (hB : look H B = some ⟨102, 1, [.own A n 1]⟩) (hA : look H A = some ⟨5, 1, (u8D ns).map X.d⟩) :
    CT Tryz.prog 82 [.ptr B 0, .d (.sl m 1 (intsD l)), .d (.fn 83)] H [B, A] [C] [(B, some ⟨102, 1, [.own C (n + 1 + 4 * m) 1]⟩), (C, some ⟨5, 1, (u8D (ns ++ [((m : Nat) : Int) / 1 % 256] ++ be4L l m)).map X.d⟩), (A, none)] (.tup []) := by
  have h := counted (fun j => if j = 1 then B else if j = 2 then A else C) (H := H) l m hlm hl0 hl n ns hn hbig ⟨⟨rfl, hB⟩, ⟨rfl, by
    show look H A = _
    rw [hA]
    simp [Ob.ren, X.ren]⟩, trivial⟩ (show ([B, A, C] : List Nat).Nodup by simp [hBA, hBC, hAC])
  have e : updOf (fun j => if j = 1 then B else if j = 2 then A else C) [(1, some (⟨102, 1, [.own 2 n 1]⟩ : Ob)), (2, some ⟨5, 1, (u8D ns).map X.d⟩)] [(1, some ⟨102, 1, [.own 4 (n + 1 + 4 * m) 1]⟩), (4, some ⟨5, 1, (u8D (ns ++ [((m : Nat) : Int) / 1 % 256] ++ be4L l m)).map X.d⟩)]
      = [(B, some ⟨102, 1, [.own C (n + 1 + 4 * m) 1]⟩), (C, some ⟨5, 1, (u8D (ns ++ [((m : Nat) : Int) / 1 % 256] ++ be4L l m)).map X.d⟩), (A, none)] := by
    simp [updOf, renU, goneL, ks, Ob.ren, X.ren]
  rw [e] at h
  exact h

theorem text0' (B A : Nat) (hBA : B ≠ A) (s : ByteArray) (hs0 : 0 < s.size) (hs : s.size ≤ 1000000) {H : Heap} (hB : look H B = some ⟨102, 1, [.d (.sl 0 0 [])]⟩) :
    CT Tryz.prog 79 [.ptr B 0, .d (.str s)] H [B] [A] [(B, some ⟨102, 1, [.own A s.size 1]⟩), (A, some ⟨5, 1, (u8D (octs s)).map X.d⟩)] (.tup []) := by
  have h := text0 (fun j => if j = 1 then B else A) (H := H) s hs0 hs ⟨⟨rfl, hB⟩, trivial⟩ (show ([B, A] : List Nat).Nodup by simpa using hBA)
  have e : updOf (fun j => if j = 1 then B else A) [(1, some (⟨102, 1, [.d (.sl 0 0 [])]⟩ : Ob))] [(1, some ⟨102, 1, [.own 2 s.size 1]⟩), (2, some ⟨5, 1, (u8D (octs s)).map X.d⟩)] = [(B, some ⟨102, 1, [.own A s.size 1]⟩), (A, some ⟨5, 1, (u8D (octs s)).map X.d⟩)] := by
    simp [updOf, renU, goneL, ks, Ob.ren, X.ren]
  rw [e] at h
  exact h

end Go.Proofs.YtaacgmcgmljjeaaGreat

/- The calculus of states: a block of octets as a string. -/
namespace Go.Proofs.YtaacgmcgmljjeaaGreat
open Go.RowKit

section
variable {P : Program} {o : Oper} {E : Env} {H : Heap} {R nw : List Nat}

theorem LT_strOfO {S T e : TypeId} {id n : Nat} {y : Operand} {ob : Ob} (ns : List Int) (s : ByteArray) (ho : o.op = .convert S T y) (hS : P.underlying S = some (.slice e)) (hT : P.underlying T = some .string) (he : P.underlying e = some (.int .u8)) (hy : opX E y = .own id n 1) (hl : look H id = some ob) (hR : id ∈ R) (hc : ob.cs = (u8D ns).map .d) (hln : ns.length = n) (h0 : 0 < n) (hs' : strD ns = s) : LT P o E H R nw [] (.d (.str s)) :=
  LT_read fun G ρ H1 a w hs hh hRR => by
    have h1 := hh y (by simp [ho, Op.operands])
    rw [hy] at h1
    have hl1 : look H1 id = some ob := (hRR id hR).trans hl
    refine ⟨.string s, ?_, .d (.str s)⟩
    generalize hv : a.eval y = v at h1
    cases h1 with
    | own0 => omega
    | own _ _ _ b cap hr =>
      rcases hs.obj id ob hl1 with ⟨_, z1⟩ | ⟨b', cap', cur, g1, g2, g3, g4, g5, g6⟩
      · rw [hr] at z1; cases z1
      rw [hr] at g1
      cases g1
      have hcl : ob.cs.length = n := by rw [hc]; simp [u8D, hln]
      have hcur : n ≤ cur.size := by omega
      have hl2 := run_loadCells (P := P) w ⟨b, 0, none⟩ n (fun j => cur.getD j Go.undef) (fun j hj => by
        rw [add_none]
        have hjc : j < cur.size := by omega
        simp [World.cell?, g3, Array.getD, hjc])
      have hcells : ((List.range n).map fun j => cur.getD j Go.undef) = ns.map (.int .u8) := by
        refine List.ext_getElem (by simp [hln]) fun i h2 h3 => ?_
        have hi : i < ns.length := by simpa using h3
        have hic : i < cur.size := by omega
        have := g6 i cur[i] (.d (.int .u8 ns[i])) (by simp [hic]) (by rw [hc]; simp [u8D, hi])
        rw [List.getElem_map, List.getElem_range, List.getElem_map]
        simp only [Array.getD, hic, dif_pos]
        exact this.int_inv
      rw [hcells] at hl2
      have hrun := run_bytesToString (P := P) w ⟨b, 0, none⟩ n cap ns (by rw [hl2])
      have hs2 : (ns.foldl (fun r n => r.push (UInt8.ofNat n.toNat)) ByteArray.empty) = s := by
        rw [foldl_push, ← hs']
        show (⟨(ByteArray.empty).data ++ _⟩ : ByteArray) = _
        rw [show (ByteArray.empty).data = #[] from rfl, Array.empty_append]
        rfl
      rw [hs2] at hrun
      simp only [execOp, ho, hv, Sem.run_bind, run_convert_bytes_string w S T e _ _ _ hS he hT, hrun, Result.andThen_ok, Sem.run_pure]

end
end Go.Proofs.YtaacgmcgmljjeaaGreat

/- A tag is written. -/
namespace Go.Proofs.YtaacgmcgmljjeaaGreat
open Go.RowKit

theorem octs_len (s : ByteArray) : (octs s).length = s.size := by
  simp [octs]

set_option maxRecDepth 100000 in
set_option maxHeartbeats 2000000 in
theorem tagT (σ : Nat → Nat) {H : Heap} (g : ByteArray) (hg0 : 0 < g.size) (hgs : g.size ≤ 100) (s : ByteArray) (hs0 : 0 < s.size) (hs : s.size ≤ 200) (hH : subR σ [(1, some ⟨102, 1, [.d (.sl 0 0 [])]⟩)] H) (hinj : ((ks [(1, some ⟨102, 1, [.d (.sl 0 0 [])]⟩)] ++ newL [(1, some ⟨102, 1, [.d (.sl 0 0 [])]⟩)] [(1, some ⟨102, 1, [.own 6 (g.size + 1 + 2 + s.size) 1]⟩), (6, some ⟨5, 1, (u8D (((octs g ++ [(1 / 1) % 256]) ++ [(((s.size : Nat) : Int) / 256) % 256, (((s.size : Nat) : Int) / 1) % 256]) ++ octs s)).map X.d⟩)]).map σ).Nodup) : CT Tryz.prog 40 ([.ptr 1 0, .agg [.d (.str g), .d (.int .i64 1), .d (.str s), .d (.sl 0 0 []), .d (.int .i64 0), .d (.sl 0 0 [])]].map (X.ren σ)) H ((ks [(1, some ⟨102, 1, [.d (.sl 0 0 [])]⟩)]).map σ) ((newL [(1, some ⟨102, 1, [.d (.sl 0 0 [])]⟩)] [(1, some ⟨102, 1, [.own 6 (g.size + 1 + 2 + s.size) 1]⟩), (6, some ⟨5, 1, (u8D (((octs g ++ [(1 / 1) % 256]) ++ [(((s.size : Nat) : Int) / 256) % 256, (((s.size : Nat) : Int) / 1) % 256]) ++ octs s)).map X.d⟩)]).map σ) (updOf σ [(1, some ⟨102, 1, [.d (.sl 0 0 [])]⟩)] [(1, some ⟨102, 1, [.own 6 (g.size + 1 + 2 + s.size) 1]⟩), (6, some ⟨5, 1, (u8D (((octs g ++ [(1 / 1) % 256]) ++ [(((s.size : Nat) : Int) / 256) % 256, (((s.size : Nat) : Int) / 1) % 256]) ++ octs s)).map X.d⟩)]) (X.ren σ (.tup [])) := by
  refine CT_of (fn := Tryz.f40) (rl := .tup []) σ [(1, some ⟨102, 1, [.d (.sl 0 0 [])]⟩)] [(1, some ⟨102, 1, [.own 6 (g.size + 1 + 2 + s.size) 1]⟩), (6, some ⟨5, 1, (u8D (((octs g ++ [(1 / 1) % 256]) ++ [(((s.size : Nat) : Int) / 256) % 256, (((s.size : Nat) : Int) / 1) % 256]) ++ octs s)).map X.d⟩)] Tryz.func40 rfl (by simp [Tryz.ntmps40]) hH hinj (by kernel_rfl) (by simp [Heap.ids, X.idsL, X.ids, idsL_d, ks]) (fun j o h1 h2 => by simp [ks] at h1; rcases h1 with rfl | rfl <;> simp [look] at h2 <;> subst h2 <;> simp) fun G hG => ?_
  rw [Tryz.ntmps40]
  change AW _ _ _ _ ⟨[(0, .ptr 1 0), (1, .agg [.d (.str g), .d (.int .i64 1), .d (.str s), .d (.sl 0 0 []), .d (.int .i64 0), .d (.sl 0 0 [])])], [(1, some ⟨102, 1, [.d (.sl 0 0 [])]⟩)], [1]⟩ _
  refine aw_seq ?_
  refine aw_region_seq [⟨.ptr 2 0, [(2, some ⟨41, 6, [.d (.str g), .d (.int .i64 1), .d (.str s), .d (.sl 0 0 []), .d (.int .i64 0), .d (.sl 0 0 [])]⟩)], [2], []⟩] (by kernel_rfl) (by kernel_rfl) (fun id h => hG id (by simp [ks] at h ⊢ <;> omega)) ?_ ?_
  · exact okY rfl (LT_box (x := .agg [.d (.str g), .d (.int .i64 1), .d (.str s), .d (.sl 0 0 []), .d (.int .i64 0), .d (.sl 0 0 [])]) 2 rfl rfl rfl 6 rfl (List.Mem.head _)) <| okE
  change AW _ _ _ _ _ _
  refine aw_weak (weak_of [(0, .ptr 1 0), (3, .ptr 2 0)] [(1, some ⟨102, 1, [.d (.sl 0 0 [])]⟩), (2, some ⟨41, 6, [.d (.str g), .d (.int .i64 1), .d (.str s), .d (.sl 0 0 []), .d (.int .i64 0), .d (.sl 0 0 [])]⟩)] [1, 2] (sE rfl (sE rfl sE0)) (sH rfl (sH rfl sH0)) (by kernel_rfl)) ?_
  refine aw_seq ?_
  refine aw_region_any rfl [⟨.ptr 1 0, [], [], []⟩, ⟨.ptr 1 0, [], [], []⟩, ⟨.ptr 1 0, [], [], []⟩, ⟨.ptr 2 0, [], [], []⟩, ⟨.d (.str g), [], [], [2]⟩, ⟨.tup [], [(1, some ⟨102, 1, [.own 3 g.size 1]⟩), (3, some ⟨5, 1, (u8D (octs g)).map X.d⟩)], [3], [1]⟩] (by kernel_rfl) (by kernel_rfl) (by kernel_rfl) (fun id h => hG id (by simp [ks] at h ⊢ <;> omega)) ?_ ?_
  · exact okY rfl (LT_move rfl rfl) <| okY rfl (LT_nilCheck rfl rfl) <| okY rfl (LT_fieldAddr rfl rfl Tryz.underlying102 rfl inf100 (by decide) _ rfl) <| okY rfl (LT_fieldAddr rfl rfl Tryz.underlying41 rfl inf9 (by decide) _ rfl) <| okY rfl (LT_load 1 rfl rfl rfl (List.Mem.head _) Tryz.underlying9 inf9 (by simp) (.inr ⟨rfl, rfl, rfl⟩)) <| okY rfl (LT_call [.ptr 1 0, .d (.str g)] rfl rfl Tryz.call79 rfl (text0' 1 3 (by decide) g hg0 (by omega) rfl)) <| okE
  change AW _ _ _ _ _ _
  refine aw_weak (weak_of [(0, .ptr 1 0), (3, .ptr 2 0)] [(1, some ⟨102, 1, [.own 3 g.size 1]⟩), (2, some ⟨41, 6, [.d (.str g), .d (.int .i64 1), .d (.str s), .d (.sl 0 0 []), .d (.int .i64 0), .d (.sl 0 0 [])]⟩), (3, some ⟨5, 1, (u8D (octs g)).map X.d⟩)] [1, 2, 3] (sE rfl (sE rfl sE0)) (sH rfl (sH rfl (sH rfl sH0))) (by simp only [Heap.ids, idsL_d, List.nil_append]; kernel_rfl)) ?_
  refine aw_seq ?_
  refine aw_region_seq [⟨.ptr 1 0, [], [], []⟩, ⟨.ptr 2 1, [], [], []⟩, ⟨.d (.int .i64 1), [], [], [2]⟩, ⟨.d (.sl 1 1 ([1].map (.int .i64))), [], [], []⟩, ⟨.tup [], [(1, some ⟨102, 1, [.own 4 (g.size + 1) 1]⟩), (4, some ⟨5, 1, (u8D ((octs g) ++ [(1 / 1) % 256])).map X.d⟩), (3, none)], [4], [1, 3]⟩] (by kernel_rfl) (by kernel_rfl) (fun id h => hG id (by simp [ks] at h ⊢ <;> omega)) ?_ ?_
  · exact okY rfl (LT_move rfl rfl) <| okY rfl (LT_fieldAddr rfl rfl Tryz.underlying41 rfl inf3 (by decide) _ rfl) <| okY rfl (LT_load 1 rfl rfl rfl (List.Mem.head _) Tryz.underlying3 inf3 (by simp) (.inr ⟨rfl, rfl, rfl⟩)) <| okY rfl (LT_buildSliceD [.d (.int .i64 1)] ([1].map (.int .i64)) rfl Tryz.underlying36 inf3 rfl rfl 1 rfl (by decide) (by decide) rfl rfl (by decide) rfl (by kernel_rfl) rfl) <| okY rfl (LT_call [.ptr 1 0, .d (.sl 1 1 ([1].map (.int .i64)))] rfl rfl Tryz.call80 rfl (u8' 1 3 4 (by decide) (by decide) (by decide) 1 (n := g.size) (ns := (octs g)) (by simp [octs_len]) (by omega) rfl rfl)) <| okE
  change AW _ _ _ _ _ _
  refine aw_weak (weak_of [(0, .ptr 1 0), (3, .ptr 2 0)] [(1, some ⟨102, 1, [.own 4 (g.size + 1) 1]⟩), (2, some ⟨41, 6, [.d (.str g), .d (.int .i64 1), .d (.str s), .d (.sl 0 0 []), .d (.int .i64 0), .d (.sl 0 0 [])]⟩), (4, some ⟨5, 1, (u8D ((octs g) ++ [(1 / 1) % 256])).map X.d⟩)] [1, 2, 4] (sE rfl (sE rfl sE0)) (sH rfl (sH rfl (sH rfl sH0))) (by simp only [Heap.ids, idsL_d, List.nil_append]; kernel_rfl)) ?_
  refine aw_seq ?_
  refine aw_region_seq [⟨.ptr 2 1, [], [], []⟩, ⟨.d (.int .i64 1), [], [], [2]⟩] (by kernel_rfl) (by kernel_rfl) (fun id h => hG id (by simp [ks] at h ⊢ <;> omega)) ?_ ?_
  · exact okY rfl (LT_fieldAddr rfl rfl Tryz.underlying41 rfl inf3 (by decide) _ rfl) <| okY rfl (LT_load 1 rfl rfl rfl (List.Mem.head _) Tryz.underlying3 inf3 (by simp) (.inr ⟨rfl, rfl, rfl⟩)) <| okE
  change AW _ _ _ _ _ _
  refine aw_weak (weak_of [(0, .ptr 1 0), (3, .ptr 2 0), (18, .d (.int .i64 1))] [(1, some ⟨102, 1, [.own 4 (g.size + 1) 1]⟩), (2, some ⟨41, 6, [.d (.str g), .d (.int .i64 1), .d (.str s), .d (.sl 0 0 []), .d (.int .i64 0), .d (.sl 0 0 [])]⟩), (4, some ⟨5, 1, (u8D ((octs g) ++ [(1 / 1) % 256])).map X.d⟩)] [1, 2, 4] (sE rfl (sE rfl (sE rfl sE0))) (sH rfl (sH rfl (sH rfl sH0))) (by simp only [Heap.ids, idsL_d, List.nil_append]; kernel_rfl)) ?_
  refine aw_block ?_
  refine aw_seq ?_
  refine aw_region_seq [⟨.d (.bool true), [], [], []⟩, ⟨.d (.bool true), [], [], []⟩] (by kernel_rfl) (by kernel_rfl) (fun id h => hG id (by simp [ks] at h ⊢ <;> omega)) ?_ ?_
  · exact okY rfl (LT_cmp rfl rfl rfl rfl rfl) <| okY rfl (LT_assign rfl rfl) <| okE
  change AW _ _ _ _ _ _
  refine aw_weak (weak_of [(0, .ptr 1 0), (3, .ptr 2 0), (18, .d (.int .i64 1)), (19, .d (.bool true))] [(1, some ⟨102, 1, [.own 4 (g.size + 1) 1]⟩), (2, some ⟨41, 6, [.d (.str g), .d (.int .i64 1), .d (.str s), .d (.sl 0 0 []), .d (.int .i64 0), .d (.sl 0 0 [])]⟩), (4, some ⟨5, 1, (u8D ((octs g) ++ [(1 / 1) % 256])).map X.d⟩)] [1, 2, 4] (sE rfl (sE rfl (sE rfl (sE rfl sE0)))) (sH rfl (sH rfl (sH rfl sH0))) (by simp only [Heap.ids, idsL_d, List.nil_append]; kernel_rfl)) ?_
  refine aw_condT rfl ?_
  refine aw_seq ?_
  refine aw_region_seq [⟨.ptr 1 0, [], [], []⟩, ⟨.ptr 2 2, [], [], []⟩, ⟨.d (.str s), [], [], [2]⟩, ⟨.d (.int .i64 ((s.size : Nat) : Int)), [], [], []⟩, ⟨.d (.sl 1 1 ([((s.size : Nat) : Int)].map (.int .i64))), [], [], []⟩, ⟨.tup [], [(1, some ⟨102, 1, [.own 5 ((g.size + 1) + 2) 1]⟩), (5, some ⟨5, 1, (u8D (((octs g) ++ [(1 / 1) % 256]) ++ [(((s.size : Nat) : Int) / 256) % 256, (((s.size : Nat) : Int) / 1) % 256])).map X.d⟩), (4, none)], [5], [1, 4]⟩] (by kernel_rfl) (by kernel_rfl) (fun id h => hG id (by simp [ks] at h ⊢ <;> omega)) ?_ ?_
  · exact okY rfl (LT_move rfl rfl) <| okY rfl (LT_fieldAddr rfl rfl Tryz.underlying41 rfl inf9 (by decide) _ rfl) <| okY rfl (LT_load 1 rfl rfl rfl (List.Mem.head _) Tryz.underlying9 inf9 (by simp) (.inr ⟨rfl, rfl, rfl⟩)) <| okY rfl (LT_lenS rfl Tryz.underlying9 rfl) <| okY rfl (LT_buildSliceD [.d (.int .i64 ((s.size : Nat) : Int))] ([((s.size : Nat) : Int)].map (.int .i64)) rfl Tryz.underlying36 inf3 rfl rfl 1 rfl (by decide) (by decide) rfl rfl (by decide) rfl (by kernel_rfl) rfl) <| okY rfl (LT_call [.ptr 1 0, .d (.sl 1 1 ([((s.size : Nat) : Int)].map (.int .i64)))] rfl rfl Tryz.call81 rfl (u16' 1 4 5 (by decide) (by decide) (by decide) ((s.size : Nat) : Int) (n := (g.size + 1)) (ns := ((octs g) ++ [(1 / 1) % 256])) (by simp [octs_len]) (by omega) rfl rfl)) <| okE
  change AW _ _ _ _ _ _
  refine aw_weak (weak_of [(0, .ptr 1 0), (3, .ptr 2 0)] [(1, some ⟨102, 1, [.own 5 ((g.size + 1) + 2) 1]⟩), (2, some ⟨41, 6, [.d (.str g), .d (.int .i64 1), .d (.str s), .d (.sl 0 0 []), .d (.int .i64 0), .d (.sl 0 0 [])]⟩), (5, some ⟨5, 1, (u8D (((octs g) ++ [(1 / 1) % 256]) ++ [(((s.size : Nat) : Int) / 256) % 256, (((s.size : Nat) : Int) / 1) % 256])).map X.d⟩)] [1, 2, 5] (sE rfl (sE rfl sE0)) (sH rfl (sH rfl (sH rfl sH0))) (by simp only [Heap.ids, idsL_d, List.nil_append]; kernel_rfl)) ?_
  refine aw_region_any rfl [⟨.ptr 1 0, [], [], []⟩, ⟨.ptr 1 0, [], [], []⟩, ⟨.ptr 1 0, [], [], []⟩, ⟨.ptr 2 2, [], [], []⟩, ⟨.d (.str s), [], [], [2]⟩, ⟨.tup [], [(1, some ⟨102, 1, [.own 6 (((g.size + 1) + 2) + s.size) 1]⟩), (6, some ⟨5, 1, (u8D ((((octs g) ++ [(1 / 1) % 256]) ++ [(((s.size : Nat) : Int) / 256) % 256, (((s.size : Nat) : Int) / 1) % 256]) ++ octs s)).map X.d⟩), (5, none)], [6], [1, 5]⟩] (by kernel_rfl) (by kernel_rfl) (by kernel_rfl) (fun id h => hG id (by simp [ks] at h ⊢ <;> omega)) ?_ ?_
  · exact okY rfl (LT_move rfl rfl) <| okY rfl (LT_nilCheck rfl rfl) <| okY rfl (LT_fieldAddr rfl rfl Tryz.underlying102 rfl inf100 (by decide) _ rfl) <| okY rfl (LT_fieldAddr rfl rfl Tryz.underlying41 rfl inf9 (by decide) _ rfl) <| okY rfl (LT_load 1 rfl rfl rfl (List.Mem.head _) Tryz.underlying9 inf9 (by simp) (.inr ⟨rfl, rfl, rfl⟩)) <| okY rfl (LT_call [.ptr 1 0, .d (.str s)] rfl rfl Tryz.call79 rfl (text1' 1 5 6 (by decide) (by decide) (by decide) s hs0 (by omega) (n := ((g.size + 1) + 2)) (ns := (((octs g) ++ [(1 / 1) % 256]) ++ [(((s.size : Nat) : Int) / 256) % 256, (((s.size : Nat) : Int) / 1) % 256])) (by simp [octs_len]) (by omega) rfl rfl)) <| okE
  refine ⟨?_, (sH rfl (sH rfl sH0))⟩
  refine finN (xs := []) (l := []) (.inr rfl) Tryz.results40 (rL0) (by simp) ?_
  exact rfl

set_option maxRecDepth 100000 in
set_option maxHeartbeats 2000000 in
theorem tagN (σ : Nat → Nat) {H : Heap} (g : ByteArray) (hg0 : 0 < g.size) (hgs : g.size ≤ 100) (l : List Int) (m : Nat) (hlm : l.length = m) (hl0 : 0 < m) (hl : m ≤ 12) (hH : subR σ [(1, some ⟨102, 1, [.d (.sl 0 0 [])]⟩)] H) (hinj : ((ks [(1, some ⟨102, 1, [.d (.sl 0 0 [])]⟩)] ++ newL [(1, some ⟨102, 1, [.d (.sl 0 0 [])]⟩)] [(1, some ⟨102, 1, [.own 5 (g.size + 1 + 1 + 4 * m) 1]⟩), (5, some ⟨5, 1, (u8D ((octs g ++ [(2 / 1) % 256]) ++ [((m : Nat) : Int) / 1 % 256] ++ be4L l m)).map X.d⟩)]).map σ).Nodup) : CT Tryz.prog 40 ([.ptr 1 0, .agg [.d (.str g), .d (.int .i64 2), .d (.str (⟨#[]⟩)), .d (.sl m 1 (intsD l)), .d (.int .i64 0), .d (.sl 0 0 [])]].map (X.ren σ)) H ((ks [(1, some ⟨102, 1, [.d (.sl 0 0 [])]⟩)]).map σ) ((newL [(1, some ⟨102, 1, [.d (.sl 0 0 [])]⟩)] [(1, some ⟨102, 1, [.own 5 (g.size + 1 + 1 + 4 * m) 1]⟩), (5, some ⟨5, 1, (u8D ((octs g ++ [(2 / 1) % 256]) ++ [((m : Nat) : Int) / 1 % 256] ++ be4L l m)).map X.d⟩)]).map σ) (updOf σ [(1, some ⟨102, 1, [.d (.sl 0 0 [])]⟩)] [(1, some ⟨102, 1, [.own 5 (g.size + 1 + 1 + 4 * m) 1]⟩), (5, some ⟨5, 1, (u8D ((octs g ++ [(2 / 1) % 256]) ++ [((m : Nat) : Int) / 1 % 256] ++ be4L l m)).map X.d⟩)]) (X.ren σ (.tup [])) := by
  refine CT_of (fn := Tryz.f40) (rl := .tup []) σ [(1, some ⟨102, 1, [.d (.sl 0 0 [])]⟩)] [(1, some ⟨102, 1, [.own 5 (g.size + 1 + 1 + 4 * m) 1]⟩), (5, some ⟨5, 1, (u8D ((octs g ++ [(2 / 1) % 256]) ++ [((m : Nat) : Int) / 1 % 256] ++ be4L l m)).map X.d⟩)] Tryz.func40 rfl (by simp [Tryz.ntmps40]) hH hinj (by kernel_rfl) (by simp [Heap.ids, X.idsL, X.ids, idsL_d, ks]) (fun j o h1 h2 => by simp [ks] at h1; rcases h1 with rfl | rfl <;> simp [look] at h2 <;> subst h2 <;> simp) fun G hG => ?_
  rw [Tryz.ntmps40]
  change AW _ _ _ _ ⟨[(0, .ptr 1 0), (1, .agg [.d (.str g), .d (.int .i64 2), .d (.str (⟨#[]⟩)), .d (.sl m 1 (intsD l)), .d (.int .i64 0), .d (.sl 0 0 [])])], [(1, some ⟨102, 1, [.d (.sl 0 0 [])]⟩)], [1]⟩ _
  refine aw_seq ?_
  refine aw_region_seq [⟨.ptr 2 0, [(2, some ⟨41, 6, [.d (.str g), .d (.int .i64 2), .d (.str (⟨#[]⟩)), .d (.sl m 1 (intsD l)), .d (.int .i64 0), .d (.sl 0 0 [])]⟩)], [2], []⟩] (by kernel_rfl) (by kernel_rfl) (fun id h => hG id (by simp [ks] at h ⊢ <;> omega)) ?_ ?_
  · exact okY rfl (LT_box (x := .agg [.d (.str g), .d (.int .i64 2), .d (.str (⟨#[]⟩)), .d (.sl m 1 (intsD l)), .d (.int .i64 0), .d (.sl 0 0 [])]) 2 rfl rfl rfl 6 rfl (List.Mem.head _)) <| okE
  change AW _ _ _ _ _ _
  refine aw_weak (weak_of [(0, .ptr 1 0), (3, .ptr 2 0)] [(1, some ⟨102, 1, [.d (.sl 0 0 [])]⟩), (2, some ⟨41, 6, [.d (.str g), .d (.int .i64 2), .d (.str (⟨#[]⟩)), .d (.sl m 1 (intsD l)), .d (.int .i64 0), .d (.sl 0 0 [])]⟩)] [1, 2] (sE rfl (sE rfl sE0)) (sH rfl (sH rfl sH0)) (by kernel_rfl)) ?_
  refine aw_seq ?_
  refine aw_region_any rfl [⟨.ptr 1 0, [], [], []⟩, ⟨.ptr 1 0, [], [], []⟩, ⟨.ptr 1 0, [], [], []⟩, ⟨.ptr 2 0, [], [], []⟩, ⟨.d (.str g), [], [], [2]⟩, ⟨.tup [], [(1, some ⟨102, 1, [.own 3 g.size 1]⟩), (3, some ⟨5, 1, (u8D (octs g)).map X.d⟩)], [3], [1]⟩] (by kernel_rfl) (by kernel_rfl) (by kernel_rfl) (fun id h => hG id (by simp [ks] at h ⊢ <;> omega)) ?_ ?_
  · exact okY rfl (LT_move rfl rfl) <| okY rfl (LT_nilCheck rfl rfl) <| okY rfl (LT_fieldAddr rfl rfl Tryz.underlying102 rfl inf100 (by decide) _ rfl) <| okY rfl (LT_fieldAddr rfl rfl Tryz.underlying41 rfl inf9 (by decide) _ rfl) <| okY rfl (LT_load 1 rfl rfl rfl (List.Mem.head _) Tryz.underlying9 inf9 (by simp) (.inr ⟨rfl, rfl, rfl⟩)) <| okY rfl (LT_call [.ptr 1 0, .d (.str g)] rfl rfl Tryz.call79 rfl (text0' 1 3 (by decide) g hg0 (by omega) rfl)) <| okE
  change AW _ _ _ _ _ _
  refine aw_weak (weak_of [(0, .ptr 1 0), (3, .ptr 2 0)] [(1, some ⟨102, 1, [.own 3 g.size 1]⟩), (2, some ⟨41, 6, [.d (.str g), .d (.int .i64 2), .d (.str (⟨#[]⟩)), .d (.sl m 1 (intsD l)), .d (.int .i64 0), .d (.sl 0 0 [])]⟩), (3, some ⟨5, 1, (u8D (octs g)).map X.d⟩)] [1, 2, 3] (sE rfl (sE rfl sE0)) (sH rfl (sH rfl (sH rfl sH0))) (by simp only [Heap.ids, idsL_d, List.nil_append]; kernel_rfl)) ?_
  refine aw_seq ?_
  refine aw_region_seq [⟨.ptr 1 0, [], [], []⟩, ⟨.ptr 2 1, [], [], []⟩, ⟨.d (.int .i64 2), [], [], [2]⟩, ⟨.d (.sl 1 1 ([2].map (.int .i64))), [], [], []⟩, ⟨.tup [], [(1, some ⟨102, 1, [.own 4 (g.size + 1) 1]⟩), (4, some ⟨5, 1, (u8D ((octs g) ++ [(2 / 1) % 256])).map X.d⟩), (3, none)], [4], [1, 3]⟩] (by kernel_rfl) (by kernel_rfl) (fun id h => hG id (by simp [ks] at h ⊢ <;> omega)) ?_ ?_
  · exact okY rfl (LT_move rfl rfl) <| okY rfl (LT_fieldAddr rfl rfl Tryz.underlying41 rfl inf3 (by decide) _ rfl) <| okY rfl (LT_load 1 rfl rfl rfl (List.Mem.head _) Tryz.underlying3 inf3 (by simp) (.inr ⟨rfl, rfl, rfl⟩)) <| okY rfl (LT_buildSliceD [.d (.int .i64 2)] ([2].map (.int .i64)) rfl Tryz.underlying36 inf3 rfl rfl 1 rfl (by decide) (by decide) rfl rfl (by decide) rfl (by kernel_rfl) rfl) <| okY rfl (LT_call [.ptr 1 0, .d (.sl 1 1 ([2].map (.int .i64)))] rfl rfl Tryz.call80 rfl (u8' 1 3 4 (by decide) (by decide) (by decide) 2 (n := g.size) (ns := (octs g)) (by simp [octs_len]) (by omega) rfl rfl)) <| okE
  change AW _ _ _ _ _ _
  refine aw_weak (weak_of [(0, .ptr 1 0), (3, .ptr 2 0)] [(1, some ⟨102, 1, [.own 4 (g.size + 1) 1]⟩), (2, some ⟨41, 6, [.d (.str g), .d (.int .i64 2), .d (.str (⟨#[]⟩)), .d (.sl m 1 (intsD l)), .d (.int .i64 0), .d (.sl 0 0 [])]⟩), (4, some ⟨5, 1, (u8D ((octs g) ++ [(2 / 1) % 256])).map X.d⟩)] [1, 2, 4] (sE rfl (sE rfl sE0)) (sH rfl (sH rfl (sH rfl sH0))) (by simp only [Heap.ids, idsL_d, List.nil_append]; kernel_rfl)) ?_
  refine aw_seq ?_
  refine aw_region_seq [⟨.ptr 2 1, [], [], []⟩, ⟨.d (.int .i64 2), [], [], [2]⟩] (by kernel_rfl) (by kernel_rfl) (fun id h => hG id (by simp [ks] at h ⊢ <;> omega)) ?_ ?_
  · exact okY rfl (LT_fieldAddr rfl rfl Tryz.underlying41 rfl inf3 (by decide) _ rfl) <| okY rfl (LT_load 1 rfl rfl rfl (List.Mem.head _) Tryz.underlying3 inf3 (by simp) (.inr ⟨rfl, rfl, rfl⟩)) <| okE
  change AW _ _ _ _ _ _
  refine aw_weak (weak_of [(0, .ptr 1 0), (3, .ptr 2 0), (18, .d (.int .i64 2))] [(1, some ⟨102, 1, [.own 4 (g.size + 1) 1]⟩), (2, some ⟨41, 6, [.d (.str g), .d (.int .i64 2), .d (.str (⟨#[]⟩)), .d (.sl m 1 (intsD l)), .d (.int .i64 0), .d (.sl 0 0 [])]⟩), (4, some ⟨5, 1, (u8D ((octs g) ++ [(2 / 1) % 256])).map X.d⟩)] [1, 2, 4] (sE rfl (sE rfl (sE rfl sE0))) (sH rfl (sH rfl (sH rfl sH0))) (by simp only [Heap.ids, idsL_d, List.nil_append]; kernel_rfl)) ?_
  refine aw_block ?_
  refine aw_seq ?_
  refine aw_region_seq [⟨.d (.bool false), [], [], []⟩, ⟨.d (.bool false), [], [], []⟩] (by kernel_rfl) (by kernel_rfl) (fun id h => hG id (by simp [ks] at h ⊢ <;> omega)) ?_ ?_
  · exact okY rfl (LT_cmp rfl rfl rfl rfl rfl) <| okY rfl (LT_assign rfl rfl) <| okE
  change AW _ _ _ _ _ _
  refine aw_weak (weak_of [(0, .ptr 1 0), (3, .ptr 2 0), (18, .d (.int .i64 2)), (19, .d (.bool false))] [(1, some ⟨102, 1, [.own 4 (g.size + 1) 1]⟩), (2, some ⟨41, 6, [.d (.str g), .d (.int .i64 2), .d (.str (⟨#[]⟩)), .d (.sl m 1 (intsD l)), .d (.int .i64 0), .d (.sl 0 0 [])]⟩), (4, some ⟨5, 1, (u8D ((octs g) ++ [(2 / 1) % 256])).map X.d⟩)] [1, 2, 4] (sE rfl (sE rfl (sE rfl (sE rfl sE0)))) (sH rfl (sH rfl (sH rfl sH0))) (by simp only [Heap.ids, idsL_d, List.nil_append]; kernel_rfl)) ?_
  refine aw_condF rfl ?_
  refine aw_seq ?_
  refine aw_region_seq [⟨.d (.bool true), [], [], []⟩, ⟨.d (.bool true), [], [], []⟩] (by kernel_rfl) (by kernel_rfl) (fun id h => hG id (by simp [ks] at h ⊢ <;> omega)) ?_ ?_
  · exact okY rfl (LT_cmp rfl rfl rfl rfl rfl) <| okY rfl (LT_assign rfl rfl) <| okE
  change AW _ _ _ _ _ _
  refine aw_weak (weak_of [(0, .ptr 1 0), (3, .ptr 2 0), (18, .d (.int .i64 2)), (33, .d (.bool true))] [(1, some ⟨102, 1, [.own 4 (g.size + 1) 1]⟩), (2, some ⟨41, 6, [.d (.str g), .d (.int .i64 2), .d (.str (⟨#[]⟩)), .d (.sl m 1 (intsD l)), .d (.int .i64 0), .d (.sl 0 0 [])]⟩), (4, some ⟨5, 1, (u8D ((octs g) ++ [(2 / 1) % 256])).map X.d⟩)] [1, 2, 4] (sE rfl (sE rfl (sE rfl (sE rfl sE0)))) (sH rfl (sH rfl (sH rfl sH0))) (by simp only [Heap.ids, idsL_d, List.nil_append]; kernel_rfl)) ?_
  refine aw_condT rfl ?_
  refine aw_region_seq [⟨.ptr 1 0, [], [], []⟩, ⟨.ptr 2 3, [], [], []⟩, ⟨.d (.sl m 1 (intsD l)), [], [], [2]⟩, ⟨.tup [], [(1, some ⟨102, 1, [.own 5 ((g.size + 1) + 1 + 4 * m) 1]⟩), (5, some ⟨5, 1, (u8D (((octs g) ++ [(2 / 1) % 256]) ++ [((m : Nat) : Int) / 1 % 256] ++ be4L l m)).map X.d⟩), (4, none)], [5], [1, 4]⟩] (by kernel_rfl) (by kernel_rfl) (fun id h => hG id (by simp [ks] at h ⊢ <;> omega)) ?_ ?_
  · exact okY rfl (LT_move rfl rfl) <| okY rfl (LT_fieldAddr rfl rfl Tryz.underlying41 rfl inf36 (by decide) _ rfl) <| okY rfl (LT_load 1 rfl rfl rfl (List.Mem.head _) Tryz.underlying36 inf36 (by simp) (.inr ⟨rfl, rfl, rfl⟩)) <| okY rfl (LT_call [.ptr 1 0, .d (.sl m 1 (intsD l)), .d (.fn 83)] rfl rfl Tryz.call82 rfl (counted' 1 4 5 (by decide) (by decide) (by decide) l m hlm hl0 (by omega) (n := (g.size + 1)) (ns := ((octs g) ++ [(2 / 1) % 256])) (by simp [octs_len]) (by omega) rfl rfl)) <| okE
  refine ⟨?_, (sH rfl (sH rfl sH0))⟩
  refine finN (xs := []) (l := []) (.inr rfl) Tryz.results40 (rL0) (by simp) ?_
  exact rfl

theorem tagT' (B A : Nat) (hBA : B ≠ A) (g : ByteArray) (hg0 : 0 < g.size) (hgs : g.size ≤ 100) (s : ByteArray) (hs0 : 0 < s.size) (hs : s.size ≤ 200) {H : Heap} (hB : look H B = some ⟨102, 1, [.d (.sl 0 0 [])]⟩) :
    CT Tryz.prog 40 [.ptr B 0, .agg [.d (.str g), .d (.int .i64 1), .d (.str s), .d (.sl 0 0 []), .d (.int .i64 0), .d (.sl 0 0 [])]] H [B] [A] [(B, some ⟨102, 1, [.own A (g.size + 1 + 2 + s.size) 1]⟩), (A, some ⟨5, 1, (u8D (((octs g ++ [(1 / 1) % 256]) ++ [(((s.size : Nat) : Int) / 256) % 256, (((s.size : Nat) : Int) / 1) % 256]) ++ octs s)).map X.d⟩)] (.tup []) := by
  have h := tagT (fun j => if j = 1 then B else A) (H := H) g hg0 hgs s hs0 hs ⟨⟨rfl, hB⟩, trivial⟩ (show ([B, A] : List Nat).Nodup by simpa using hBA)
  have e : updOf (fun j => if j = 1 then B else A) [(1, some (⟨102, 1, [.d (.sl 0 0 [])]⟩ : Ob))] [(1, some ⟨102, 1, [.own 6 (g.size + 1 + 2 + s.size) 1]⟩), (6, some ⟨5, 1, (u8D (((octs g ++ [(1 / 1) % 256]) ++ [(((s.size : Nat) : Int) / 256) % 256, (((s.size : Nat) : Int) / 1) % 256]) ++ octs s)).map X.d⟩)] = [(B, some ⟨102, 1, [.own A (g.size + 1 + 2 + s.size) 1]⟩), (A, some ⟨5, 1, (u8D (((octs g ++ [(1 / 1) % 256]) ++ [(((s.size : Nat) : Int) / 256) % 256, (((s.size : Nat) : Int) / 1) % 256]) ++ octs s)).map X.d⟩)] := by
    simp [updOf, renU, goneL, ks, Ob.ren, X.ren]
  rw [e] at h
  exact h

theorem tagN' (B A : Nat) (hBA : B ≠ A) (g : ByteArray) (hg0 : 0 < g.size) (hgs : g.size ≤ 100) (l : List Int) (m : Nat) (hlm : l.length = m) (hl0 : 0 < m) (hl : m ≤ 12) {H : Heap} (hB : look H B = some ⟨102, 1, [.d (.sl 0 0 [])]⟩) :
    CT Tryz.prog 40 [.ptr B 0, .agg [.d (.str g), .d (.int .i64 2), .d (.str (⟨#[]⟩)), .d (.sl m 1 (intsD l)), .d (.int .i64 0), .d (.sl 0 0 [])]] H [B] [A] [(B, some ⟨102, 1, [.own A (g.size + 1 + 1 + 4 * m) 1]⟩), (A, some ⟨5, 1, (u8D ((octs g ++ [(2 / 1) % 256]) ++ [((m : Nat) : Int) / 1 % 256] ++ be4L l m)).map X.d⟩)] (.tup []) := by
  have h := tagN (fun j => if j = 1 then B else A) (H := H) g hg0 hgs l m hlm hl0 hl ⟨⟨rfl, hB⟩, trivial⟩ (show ([B, A] : List Nat).Nodup by simpa using hBA)
  have e : updOf (fun j => if j = 1 then B else A) [(1, some (⟨102, 1, [.d (.sl 0 0 [])]⟩ : Ob))] [(1, some ⟨102, 1, [.own 5 (g.size + 1 + 1 + 4 * m) 1]⟩), (5, some ⟨5, 1, (u8D ((octs g ++ [(2 / 1) % 256]) ++ [((m : Nat) : Int) / 1 % 256] ++ be4L l m)).map X.d⟩)] = [(B, some ⟨102, 1, [.own A (g.size + 1 + 1 + 4 * m) 1]⟩), (A, some ⟨5, 1, (u8D ((octs g ++ [(2 / 1) % 256]) ++ [((m : Nat) : Int) / 1 % 256] ++ be4L l m)).map X.d⟩)] := by
    simp [updOf, renU, goneL, ks, Ob.ren, X.ren]
  rw [e] at h
  exact h

end Go.Proofs.YtaacgmcgmljjeaaGreat

/- tag.Check of a text and of numbers. -/
namespace Go.Proofs.YtaacgmcgmljjeaaGreat
open Go.RowKit

set_option maxRecDepth 100000 in
set_option maxHeartbeats 2000000 in
theorem check_text (g : ByteArray) (hgg : PC Tryz.prog 45 [.d (.str g)] (.d (.bool true))) (s : ByteArray) (hs : s.size ≤ 200) (hs' : s.size < 9223372036854775807) (h0 : cmpS .neq s ⟨#[]⟩ = true) (hb : anyN (fun j => badC (octN s j)) s.size = false) : PC Tryz.prog 18 [.agg [.d (.str g), .d (.int .i64 1), .d (.str s), .d (.sl 0 0 []), .d (.int .i64 0), .d (.sl 0 0 [])]] (.d (.int .i64 0)) := by
  refine PC_of (fn := Tryz.f18) Tryz.func18 rfl (by simp [Tryz.ntmps18]) (by kernel_rfl) fun G hG => ?_
  rw [Tryz.ntmps18]
  refine aw_seq ?_
  refine aw_region_seq [⟨.ptr 1 0, [(1, some ⟨41, 6, [.d (.str g), .d (.int .i64 1), .d (.str s), .d (.sl 0 0 []), .d (.int .i64 0), .d (.sl 0 0 [])]⟩)], [1], []⟩, ⟨.d (.int .i64 0), [], [], []⟩] (by kernel_rfl) (by kernel_rfl) (fun id _ => hG id) ?_ ?_
  · exact okY rfl (LT_box (x := .agg [.d (.str g), .d (.int .i64 1), .d (.str s), .d (.sl 0 0 []), .d (.int .i64 0), .d (.sl 0 0 [])]) 1 rfl rfl rfl 6 rfl (List.Mem.head _)) <| okY rfl (LT_assign rfl rfl) <| okE
  change AW _ _ _ _ _ _
  refine aw_weak (weak_of [(1, .ptr 1 0)] [(1, some ⟨41, 6, [.d (.str g), .d (.int .i64 1), .d (.str s), .d (.sl 0 0 []), .d (.int .i64 0), .d (.sl 0 0 [])]⟩)] [1] (sE rfl sE0) (sH rfl sH0) (by kernel_rfl)) ?_
  refine aw_seq ?_
  refine aw_region_any rfl [⟨.ptr 1 2, [], [], []⟩, ⟨.d (.str s), [], [], [1]⟩, ⟨.d (.bool (cmpS .neq s (⟨#[]⟩))), [], [], []⟩, ⟨.ptr 1 3, [], [], []⟩, ⟨.d (.sl 0 0 []), [], [], [1]⟩, ⟨.d (.int .i64 0), [], [], []⟩, ⟨.d (.bool false), [], [], []⟩, ⟨.ptr 1 4, [], [], []⟩, ⟨.ptr 1 4, [], [], []⟩, ⟨.d (.int .i64 0), [], [], [1]⟩, ⟨.d (.bool false), [], [], []⟩, ⟨.d (.bool false), [], [], []⟩, ⟨.ptr 1 4, [], [], []⟩, ⟨.ptr 1 5, [], [], []⟩, ⟨.d (.sl 0 0 []), [], [], [1]⟩, ⟨.d (.int .i64 0), [], [], []⟩, ⟨.d (.bool false), [], [], []⟩, ⟨.d (.bool false), [], [], []⟩, ⟨.d (.bool (cmpS .neq s (⟨#[]⟩))), [], [], []⟩, ⟨.d (.bool false), [], [], []⟩, ⟨.d (.bool false), [], [], []⟩] (by kernel_rfl) (by kernel_rfl) (by kernel_rfl) (fun id _ => hG id) ?_ ?_
  · exact okY rfl (LT_fieldAddr rfl rfl Tryz.underlying41 rfl inf9 (by decide) _ rfl) <| okY rfl (LT_load 1 rfl rfl rfl (List.Mem.head _) Tryz.underlying9 inf9 (by simp) (.inr ⟨rfl, rfl, rfl⟩)) <| okY rfl (LT_strcmp rfl rfl rfl rfl rfl) <| okY rfl (LT_fieldAddr rfl rfl Tryz.underlying41 rfl inf36 (by decide) _ rfl) <| okY rfl (LT_load 1 rfl rfl rfl (List.Mem.head _) Tryz.underlying36 inf36 (by simp) (.inr ⟨rfl, rfl, rfl⟩)) <| okY rfl (LT_lenD rfl Tryz.underlying36 rfl) <| okY rfl (LT_cmp rfl rfl rfl rfl rfl) <| okY rfl (LT_fieldAddr rfl rfl Tryz.underlying41 rfl inf39 (by decide) _ rfl) <| okY rfl (LT_fieldAddr rfl rfl Tryz.underlying39 rfl inf3 (by decide) _ rfl) <| okY rfl (LT_load 1 rfl rfl rfl (List.Mem.head _) Tryz.underlying3 inf3 (by simp) (.inr ⟨rfl, rfl, rfl⟩)) <| okY rfl (LT_cmp rfl rfl rfl rfl rfl) <| okY rfl (LT_move rfl rfl) <| okY rfl (LT_fieldAddr rfl rfl Tryz.underlying41 rfl inf39 (by decide) _ rfl) <| okY rfl (LT_fieldAddr rfl rfl Tryz.underlying39 rfl inf37 (by decide) _ rfl) <| okY rfl (LT_load 1 rfl rfl rfl (List.Mem.head _) Tryz.underlying37 inf37 (by simp) (.inr ⟨rfl, rfl, rfl⟩)) <| okY rfl (LT_lenD rfl Tryz.underlying37 rfl) <| okY rfl (LT_cmp rfl rfl rfl rfl rfl) <| okY rfl (LT_pick rfl rfl (fun h => by cases h) (fun _ _ _ _ _ h => h)) <| okY rfl (LT_assign rfl rfl) <| okY rfl (LT_assign rfl rfl) <| okY rfl (LT_assign rfl rfl) <| okE
  change AW _ _ _ _ _ _
  refine aw_weak (weak_of [(1, .ptr 1 0), (3, .d (.bool (cmpS .neq s (⟨#[]⟩)))), (4, .d (.bool false)), (5, .d (.bool false))] [(1, some ⟨41, 6, [.d (.str g), .d (.int .i64 1), .d (.str s), .d (.sl 0 0 []), .d (.int .i64 0), .d (.sl 0 0 [])]⟩)] [1] (sE rfl (sE rfl (sE rfl (sE rfl sE0)))) (sH rfl sH0) (by kernel_rfl)) ?_
  refine aw_seq ?_
  refine aw_region_seq [⟨.d (.fn 41), [], [], []⟩] (by kernel_rfl) (by kernel_rfl) (fun id _ => hG id) ?_ ?_
  · exact okY rfl (LT_assign rfl rfl) <| okE
  change AW _ _ _ _ _ _
  refine aw_weak (weak_of [(1, .ptr 1 0), (3, .d (.bool (cmpS .neq s (⟨#[]⟩)))), (4, .d (.bool false)), (5, .d (.bool false)), (6, .d (.fn 41))] [(1, some ⟨41, 6, [.d (.str g), .d (.int .i64 1), .d (.str s), .d (.sl 0 0 []), .d (.int .i64 0), .d (.sl 0 0 [])]⟩)] [1] (sE rfl (sE rfl (sE rfl (sE rfl (sE rfl sE0))))) (sH rfl sH0) (by kernel_rfl)) ?_
  refine aw_seq ?_
  refine aw_region_seq [⟨.d (.bool false), [], [], []⟩] (by kernel_rfl) (by kernel_rfl) (fun id _ => hG id) ?_ ?_
  · exact okY rfl (LT_assign rfl rfl) <| okE
  change AW _ _ _ _ _ _
  refine aw_weak (weak_of [(1, .ptr 1 0), (3, .d (.bool (cmpS .neq s (⟨#[]⟩)))), (4, .d (.bool false)), (5, .d (.bool false)), (6, .d (.fn 41)), (7, .d (.bool false))] [(1, some ⟨41, 6, [.d (.str g), .d (.int .i64 1), .d (.str s), .d (.sl 0 0 []), .d (.int .i64 0), .d (.sl 0 0 [])]⟩)] [1] (sE rfl (sE rfl (sE rfl (sE rfl (sE rfl (sE rfl sE0)))))) (sH rfl sH0) (by kernel_rfl)) ?_
  refine aw_seq ?_
  refine aw_seq ?_
  refine aw_region_seq [⟨.ptr 1 1, [], [], []⟩, ⟨.d (.int .i64 1), [], [], [1]⟩] (by kernel_rfl) (by kernel_rfl) (fun id _ => hG id) ?_ ?_
  · exact okY rfl (LT_fieldAddr rfl rfl Tryz.underlying41 rfl inf3 (by decide) _ rfl) <| okY rfl (LT_load 1 rfl rfl rfl (List.Mem.head _) Tryz.underlying3 inf3 (by simp) (.inr ⟨rfl, rfl, rfl⟩)) <| okE
  change AW _ _ _ _ _ _
  refine aw_weak (weak_of [(1, .ptr 1 0), (3, .d (.bool (cmpS .neq s (⟨#[]⟩)))), (4, .d (.bool false)), (5, .d (.bool false)), (6, .d (.fn 41)), (7, .d (.bool false)), (27, .d (.int .i64 1))] [(1, some ⟨41, 6, [.d (.str g), .d (.int .i64 1), .d (.str s), .d (.sl 0 0 []), .d (.int .i64 0), .d (.sl 0 0 [])]⟩)] [1] (sE rfl (sE rfl (sE rfl (sE rfl (sE rfl (sE rfl (sE rfl sE0))))))) (sH rfl sH0) (by kernel_rfl)) ?_
  refine aw_block ?_
  refine aw_seq ?_
  refine aw_region_seq [⟨.d (.bool true), [], [], []⟩, ⟨.d (.bool true), [], [], []⟩] (by kernel_rfl) (by kernel_rfl) (fun id _ => hG id) ?_ ?_
  · exact okY rfl (LT_cmp rfl rfl rfl rfl rfl) <| okY rfl (LT_assign rfl rfl) <| okE
  change AW _ _ _ _ _ _
  refine aw_weak (weak_of [(1, .ptr 1 0), (3, .d (.bool (cmpS .neq s (⟨#[]⟩)))), (4, .d (.bool false)), (5, .d (.bool false)), (6, .d (.fn 41)), (7, .d (.bool false)), (27, .d (.int .i64 1)), (28, .d (.bool true))] [(1, some ⟨41, 6, [.d (.str g), .d (.int .i64 1), .d (.str s), .d (.sl 0 0 []), .d (.int .i64 0), .d (.sl 0 0 [])]⟩)] [1] (sE rfl (sE rfl (sE rfl (sE rfl (sE rfl (sE rfl (sE rfl (sE rfl sE0)))))))) (sH rfl sH0) (by kernel_rfl)) ?_
  refine aw_condT rfl ?_
  refine aw_region_seq [⟨.d (.bool (cmpS .neq s (⟨#[]⟩))), [], [], []⟩, ⟨.d (.bool (cmpS .neq s (⟨#[]⟩))), [], [], []⟩, ⟨.opt ((cmpS .neq s (⟨#[]⟩)) == true) (.ptr 1 2), [], [], []⟩, ⟨.opt ((cmpS .neq s (⟨#[]⟩)) == true) (.d (.str s)), [], [], [1]⟩, ⟨.opt ((cmpS .neq s (⟨#[]⟩)) == true) (.d (.int .i64 ((s.size : Nat) : Int))), [], [], []⟩, ⟨.opt ((cmpS .neq s (⟨#[]⟩)) == true) (.d (.bool (decide ((((s.size : Nat) : Int) : Int) ≤ 200)))), [], [], []⟩, ⟨.d (.bool ((cmpS .neq s (⟨#[]⟩)) && (decide ((((s.size : Nat) : Int) : Int) ≤ 200)))), [], [], []⟩, ⟨.d (.bool ((cmpS .neq s (⟨#[]⟩)) && (decide ((((s.size : Nat) : Int) : Int) ≤ 200)))), [], [], []⟩, ⟨.opt (((cmpS .neq s (⟨#[]⟩)) && (decide ((((s.size : Nat) : Int) : Int) ≤ 200))) == true) (.ptr 1 2), [], [], []⟩, ⟨.opt (((cmpS .neq s (⟨#[]⟩)) && (decide ((((s.size : Nat) : Int) : Int) ≤ 200))) == true) (.d (.str s)), [], [], [1]⟩, ⟨.opt (((cmpS .neq s (⟨#[]⟩)) && (decide ((((s.size : Nat) : Int) : Int) ≤ 200))) == true) (.d (.bool (!anyN (fun j => badC (octN s j)) s.size))), [], [], []⟩, ⟨.d (.bool (((cmpS .neq s (⟨#[]⟩)) && (decide ((((s.size : Nat) : Int) : Int) ≤ 200))) && (!anyN (fun j => badC (octN s j)) s.size))), [], [], []⟩, ⟨.d (.bool (((cmpS .neq s (⟨#[]⟩)) && (decide ((((s.size : Nat) : Int) : Int) ≤ 200))) && (!anyN (fun j => badC (octN s j)) s.size))), [], [], []⟩, ⟨.opt ((((cmpS .neq s (⟨#[]⟩)) && (decide ((((s.size : Nat) : Int) : Int) ≤ 200))) && (!anyN (fun j => badC (octN s j)) s.size)) == true) (.d (.bool false)), [], [], []⟩, ⟨.opt ((((cmpS .neq s (⟨#[]⟩)) && (decide ((((s.size : Nat) : Int) : Int) ≤ 200))) && (!anyN (fun j => badC (octN s j)) s.size)) == true) (.d (.bool true)), [], [], []⟩, ⟨.d (.bool ((((cmpS .neq s (⟨#[]⟩)) && (decide ((((s.size : Nat) : Int) : Int) ≤ 200))) && (!anyN (fun j => badC (octN s j)) s.size)) && true)), [], [], []⟩, ⟨.d (.bool ((((cmpS .neq s (⟨#[]⟩)) && (decide ((((s.size : Nat) : Int) : Int) ≤ 200))) && (!anyN (fun j => badC (octN s j)) s.size)) && true)), [], [], []⟩, ⟨.opt (((((cmpS .neq s (⟨#[]⟩)) && (decide ((((s.size : Nat) : Int) : Int) ≤ 200))) && (!anyN (fun j => badC (octN s j)) s.size)) && true) == true) (.d (.bool false)), [], [], []⟩, ⟨.opt (((((cmpS .neq s (⟨#[]⟩)) && (decide ((((s.size : Nat) : Int) : Int) ≤ 200))) && (!anyN (fun j => badC (octN s j)) s.size)) && true) == true) (.d (.bool true)), [], [], []⟩, ⟨.d (.bool (((((cmpS .neq s (⟨#[]⟩)) && (decide ((((s.size : Nat) : Int) : Int) ≤ 200))) && (!anyN (fun j => badC (octN s j)) s.size)) && true) && true)), [], [], []⟩, ⟨.d (.bool (((((cmpS .neq s (⟨#[]⟩)) && (decide ((((s.size : Nat) : Int) : Int) ≤ 200))) && (!anyN (fun j => badC (octN s j)) s.size)) && true) && true)), [], [], []⟩] (by kernel_rfl) (by kernel_rfl) (fun id _ => hG id) ?_ ?_
  · exact okY rfl (LT_move rfl rfl) <| okY rfl (LT_move rfl rfl) <| okG ((cmpS .neq s (⟨#[]⟩)) == true) rfl (fun hg => (LT_fieldAddr rfl rfl Tryz.underlying41 rfl inf9 (by decide) _ rfl)) <| okG ((cmpS .neq s (⟨#[]⟩)) == true) rfl (fun hg => (LT_load 1 rfl (opnT rfl hg) rfl (List.Mem.head _) Tryz.underlying9 inf9 (by simp) (.inr ⟨rfl, rfl, rfl⟩))) <| okG ((cmpS .neq s (⟨#[]⟩)) == true) rfl (fun hg => (LT_lenS rfl Tryz.underlying9 (opnT rfl hg))) <| okG ((cmpS .neq s (⟨#[]⟩)) == true) rfl (fun hg => (LT_cmp rfl rfl (opnT rfl hg) rfl rfl)) <| okY rfl (LT_pand rfl rfl rfl (fun h => by rw [h]; rfl)) <| okY rfl (LT_move rfl rfl) <| okG (((cmpS .neq s (⟨#[]⟩)) && (decide ((((s.size : Nat) : Int) : Int) ≤ 200))) == true) rfl (fun hg => (LT_fieldAddr rfl rfl Tryz.underlying41 rfl inf9 (by decide) _ rfl)) <| okG (((cmpS .neq s (⟨#[]⟩)) && (decide ((((s.size : Nat) : Int) : Int) ≤ 200))) == true) rfl (fun hg => (LT_load 1 rfl (opnT rfl hg) rfl (List.Mem.head _) Tryz.underlying9 inf9 (by simp) (.inr ⟨rfl, rfl, rfl⟩))) <| okG (((cmpS .neq s (⟨#[]⟩)) && (decide ((((s.size : Nat) : Int) : Int) ≤ 200))) == true) rfl (fun hg => (LT_call [.d (.str s)] rfl rfl Tryz.call42 (consE (opnT rfl hg) rfl) ((printed_pc s hs').ct rfl))) <| okY rfl (LT_pand rfl rfl rfl (fun h => by rw [h]; rfl)) <| okY rfl (LT_move rfl rfl) <| okG ((((cmpS .neq s (⟨#[]⟩)) && (decide ((((s.size : Nat) : Int) : Int) ≤ 200))) && (!anyN (fun j => badC (octN s j)) s.size)) == true) rfl (fun hg => (LT_move rfl rfl)) <| okG ((((cmpS .neq s (⟨#[]⟩)) && (decide ((((s.size : Nat) : Int) : Int) ≤ 200))) && (!anyN (fun j => badC (octN s j)) s.size)) == true) rfl (fun hg => (LT_not rfl (opnT rfl hg) rfl)) <| okY rfl (LT_pand rfl rfl rfl (fun h => by rw [h]; rfl)) <| okY rfl (LT_move rfl rfl) <| okG (((((cmpS .neq s (⟨#[]⟩)) && (decide ((((s.size : Nat) : Int) : Int) ≤ 200))) && (!anyN (fun j => badC (octN s j)) s.size)) && true) == true) rfl (fun hg => (LT_move rfl rfl)) <| okG (((((cmpS .neq s (⟨#[]⟩)) && (decide ((((s.size : Nat) : Int) : Int) ≤ 200))) && (!anyN (fun j => badC (octN s j)) s.size)) && true) == true) rfl (fun hg => (LT_not rfl (opnT rfl hg) rfl)) <| okY rfl (LT_pand rfl rfl rfl (fun h => by rw [h]; rfl)) <| okY rfl (LT_assign rfl rfl) <| okE
  change AW _ _ _ _ _ _
  refine aw_weak (weak_of [(1, .ptr 1 0), (7, .d (.bool (((((cmpS .neq s (⟨#[]⟩)) && (decide ((((s.size : Nat) : Int) : Int) ≤ 200))) && (!anyN (fun j => badC (octN s j)) s.size)) && true) && true)))] [(1, some ⟨41, 6, [.d (.str g), .d (.int .i64 1), .d (.str s), .d (.sl 0 0 []), .d (.int .i64 0), .d (.sl 0 0 [])]⟩)] [1] (sE rfl (sE rfl sE0)) (sH rfl sH0) (by kernel_rfl)) ?_
  refine aw_seq ?_
  refine aw_seq ?_
  refine aw_region_seq [⟨.d (.bool (((((cmpS .neq s (⟨#[]⟩)) && (decide ((((s.size : Nat) : Int) : Int) ≤ 200))) && (!anyN (fun j => badC (octN s j)) s.size)) && true) && true)), [], [], []⟩, ⟨.d (.bool (!(((((cmpS .neq s (⟨#[]⟩)) && (decide ((((s.size : Nat) : Int) : Int) ≤ 200))) && (!anyN (fun j => badC (octN s j)) s.size)) && true) && true))), [], [], []⟩, ⟨.d (.bool (!(((((cmpS .neq s (⟨#[]⟩)) && (decide ((((s.size : Nat) : Int) : Int) ≤ 200))) && (!anyN (fun j => badC (octN s j)) s.size)) && true) && true))), [], [], []⟩, ⟨.opt ((!(((((cmpS .neq s (⟨#[]⟩)) && (decide ((((s.size : Nat) : Int) : Int) ≤ 200))) && (!anyN (fun j => badC (octN s j)) s.size)) && true) && true)) == false) (.ptr 1 0), [], [], []⟩, ⟨.opt ((!(((((cmpS .neq s (⟨#[]⟩)) && (decide ((((s.size : Nat) : Int) : Int) ≤ 200))) && (!anyN (fun j => badC (octN s j)) s.size)) && true) && true)) == false) (.d (.str g)), [], [], [1]⟩, ⟨.opt ((!(((((cmpS .neq s (⟨#[]⟩)) && (decide ((((s.size : Nat) : Int) : Int) ≤ 200))) && (!anyN (fun j => badC (octN s j)) s.size)) && true) && true)) == false) (.d (.bool true)), [], [], []⟩, ⟨.opt ((!(((((cmpS .neq s (⟨#[]⟩)) && (decide ((((s.size : Nat) : Int) : Int) ≤ 200))) && (!anyN (fun j => badC (octN s j)) s.size)) && true) && true)) == false) (.d (.bool false)), [], [], []⟩, ⟨.d (.bool ((!(((((cmpS .neq s (⟨#[]⟩)) && (decide ((((s.size : Nat) : Int) : Int) ≤ 200))) && (!anyN (fun j => badC (octN s j)) s.size)) && true) && true)) || false)), [], [], []⟩] (by kernel_rfl) (by kernel_rfl) (fun id _ => hG id) ?_ ?_
  · exact okY rfl (LT_move rfl rfl) <| okY rfl (LT_not rfl rfl rfl) <| okY rfl (LT_move rfl rfl) <| okG ((!(((((cmpS .neq s (⟨#[]⟩)) && (decide ((((s.size : Nat) : Int) : Int) ≤ 200))) && (!anyN (fun j => badC (octN s j)) s.size)) && true) && true)) == false) rfl (fun hg => (LT_fieldAddr rfl rfl Tryz.underlying41 rfl inf9 (by decide) _ rfl)) <| okG ((!(((((cmpS .neq s (⟨#[]⟩)) && (decide ((((s.size : Nat) : Int) : Int) ≤ 200))) && (!anyN (fun j => badC (octN s j)) s.size)) && true) && true)) == false) rfl (fun hg => (LT_load 1 rfl (opnT rfl hg) rfl (List.Mem.head _) Tryz.underlying9 inf9 (by simp) (.inr ⟨rfl, rfl, rfl⟩))) <| okG ((!(((((cmpS .neq s (⟨#[]⟩)) && (decide ((((s.size : Nat) : Int) : Int) ≤ 200))) && (!anyN (fun j => badC (octN s j)) s.size)) && true) && true)) == false) rfl (fun hg => (LT_call [.d (.str g)] rfl rfl Tryz.call45 (consE (opnT rfl hg) rfl) (hgg.ct rfl))) <| okG ((!(((((cmpS .neq s (⟨#[]⟩)) && (decide ((((s.size : Nat) : Int) : Int) ≤ 200))) && (!anyN (fun j => badC (octN s j)) s.size)) && true) && true)) == false) rfl (fun hg => (LT_not rfl (opnT rfl hg) rfl)) <| okY rfl (LT_por rfl rfl rfl (fun h => by rw [h]; rfl)) <| okE
  change AW _ _ _ _ _ _
  refine aw_weak (weak_of [(95, .d (.bool ((!(((((cmpS .neq s (⟨#[]⟩)) && (decide ((((s.size : Nat) : Int) : Int) ≤ 200))) && (!anyN (fun j => badC (octN s j)) s.size)) && true) && true)) || false)))] [] [] (sE rfl sE0) sH0 (by kernel_rfl)) ?_
  refine aw_cond ((!(((((cmpS .neq s (⟨#[]⟩)) && (decide ((((s.size : Nat) : Int) : Int) ≤ 200))) && (!anyN (fun j => badC (octN s j)) s.size)) && true) && true)) || false) rfl (fun hb1 => ?_) (fun hb1 => ?_)
  ·
    exfalso
    have hs2 : ((s.size : Nat) : Int) ≤ 200 := by omega
    simp [h0, hb, hs2] at hb1
  ·
    refine aw_skip ?_
    change AW _ _ _ _ _ _
    refine aw_weak (weak_of [] [] [] sE0 sH0 (by kernel_rfl)) ?_
    refine aw_seq ?_
    refine aw_region_seq [⟨.d (.int .i64 0), [], [], []⟩] (by kernel_rfl) (by kernel_rfl) (fun id _ => hG id) ?_ ?_
    · exact okY rfl (LT_assign rfl rfl) <| okE
    change AW _ _ _ _ _ _
    refine aw_weak (weak_of [(2, .d (.int .i64 0))] [] [] (sE rfl sE0) sH0 (by kernel_rfl)) ?_
    refine aw_ret ?_
    refine fin1 (x := .d (.int .i64 0)) (.inl rfl) Tryz.results18 rfl ?_
    exact rfl

set_option maxRecDepth 100000 in
set_option maxHeartbeats 2000000 in
theorem check_nums (g : ByteArray) (hgg : PC Tryz.prog 45 [.d (.str g)] (.d (.bool true))) (ns : List Int) (hs : ns.length ≤ 12) (hs' : ns.length < 9223372036854775807) (h0 : 0 < ns.length) (hb : anyN (fun j => bigI (ns.getD j 0)) ns.length = false) : PC Tryz.prog 18 [.agg [.d (.str g), .d (.int .i64 2), .d (.str (⟨#[]⟩)), .d (.sl ns.length 1 (intsD ns)), .d (.int .i64 0), .d (.sl 0 0 [])]] (.d (.int .i64 0)) := by
  refine PC_of (fn := Tryz.f18) Tryz.func18 rfl (by simp [Tryz.ntmps18]) (by kernel_rfl) fun G hG => ?_
  rw [Tryz.ntmps18]
  refine aw_seq ?_
  refine aw_region_seq [⟨.ptr 1 0, [(1, some ⟨41, 6, [.d (.str g), .d (.int .i64 2), .d (.str (⟨#[]⟩)), .d (.sl ns.length 1 (intsD ns)), .d (.int .i64 0), .d (.sl 0 0 [])]⟩)], [1], []⟩, ⟨.d (.int .i64 0), [], [], []⟩] (by kernel_rfl) (by kernel_rfl) (fun id _ => hG id) ?_ ?_
  · exact okY rfl (LT_box (x := .agg [.d (.str g), .d (.int .i64 2), .d (.str (⟨#[]⟩)), .d (.sl ns.length 1 (intsD ns)), .d (.int .i64 0), .d (.sl 0 0 [])]) 1 rfl rfl rfl 6 rfl (List.Mem.head _)) <| okY rfl (LT_assign rfl rfl) <| okE
  change AW _ _ _ _ _ _
  refine aw_weak (weak_of [(1, .ptr 1 0)] [(1, some ⟨41, 6, [.d (.str g), .d (.int .i64 2), .d (.str (⟨#[]⟩)), .d (.sl ns.length 1 (intsD ns)), .d (.int .i64 0), .d (.sl 0 0 [])]⟩)] [1] (sE rfl sE0) (sH rfl sH0) (by kernel_rfl)) ?_
  refine aw_seq ?_
  refine aw_region_any rfl [⟨.ptr 1 2, [], [], []⟩, ⟨.d (.str (⟨#[]⟩)), [], [], [1]⟩, ⟨.d (.bool (cmpS .neq (⟨#[]⟩) (⟨#[]⟩))), [], [], []⟩, ⟨.ptr 1 3, [], [], []⟩, ⟨.d (.sl ns.length 1 (intsD ns)), [], [], [1]⟩, ⟨.d (.int .i64 ((ns.length : Nat) : Int)), [], [], []⟩, ⟨.d (.bool (decide ((0 : Int) < ((ns.length : Nat) : Int)))), [], [], []⟩, ⟨.ptr 1 4, [], [], []⟩, ⟨.ptr 1 4, [], [], []⟩, ⟨.d (.int .i64 0), [], [], [1]⟩, ⟨.d (.bool false), [], [], []⟩, ⟨.d (.bool false), [], [], []⟩, ⟨.ptr 1 4, [], [], []⟩, ⟨.ptr 1 5, [], [], []⟩, ⟨.d (.sl 0 0 []), [], [], [1]⟩, ⟨.d (.int .i64 0), [], [], []⟩, ⟨.d (.bool false), [], [], []⟩, ⟨.d (.bool false), [], [], []⟩, ⟨.d (.bool (cmpS .neq (⟨#[]⟩) (⟨#[]⟩))), [], [], []⟩, ⟨.d (.bool (decide ((0 : Int) < ((ns.length : Nat) : Int)))), [], [], []⟩, ⟨.d (.bool false), [], [], []⟩] (by kernel_rfl) (by kernel_rfl) (by kernel_rfl) (fun id _ => hG id) ?_ ?_
  · exact okY rfl (LT_fieldAddr rfl rfl Tryz.underlying41 rfl inf9 (by decide) _ rfl) <| okY rfl (LT_load 1 rfl rfl rfl (List.Mem.head _) Tryz.underlying9 inf9 (by simp) (.inr ⟨rfl, rfl, rfl⟩)) <| okY rfl (LT_strcmp rfl rfl rfl rfl rfl) <| okY rfl (LT_fieldAddr rfl rfl Tryz.underlying41 rfl inf36 (by decide) _ rfl) <| okY rfl (LT_load 1 rfl rfl rfl (List.Mem.head _) Tryz.underlying36 inf36 (by simp) (.inr ⟨rfl, rfl, rfl⟩)) <| okY rfl (LT_lenD rfl Tryz.underlying36 rfl) <| okY rfl (LT_cmp rfl rfl rfl rfl rfl) <| okY rfl (LT_fieldAddr rfl rfl Tryz.underlying41 rfl inf39 (by decide) _ rfl) <| okY rfl (LT_fieldAddr rfl rfl Tryz.underlying39 rfl inf3 (by decide) _ rfl) <| okY rfl (LT_load 1 rfl rfl rfl (List.Mem.head _) Tryz.underlying3 inf3 (by simp) (.inr ⟨rfl, rfl, rfl⟩)) <| okY rfl (LT_cmp rfl rfl rfl rfl rfl) <| okY rfl (LT_move rfl rfl) <| okY rfl (LT_fieldAddr rfl rfl Tryz.underlying41 rfl inf39 (by decide) _ rfl) <| okY rfl (LT_fieldAddr rfl rfl Tryz.underlying39 rfl inf37 (by decide) _ rfl) <| okY rfl (LT_load 1 rfl rfl rfl (List.Mem.head _) Tryz.underlying37 inf37 (by simp) (.inr ⟨rfl, rfl, rfl⟩)) <| okY rfl (LT_lenD rfl Tryz.underlying37 rfl) <| okY rfl (LT_cmp rfl rfl rfl rfl rfl) <| okY rfl (LT_pick rfl rfl (fun h => by cases h) (fun _ _ _ _ _ h => h)) <| okY rfl (LT_assign rfl rfl) <| okY rfl (LT_assign rfl rfl) <| okY rfl (LT_assign rfl rfl) <| okE
  change AW _ _ _ _ _ _
  refine aw_weak (weak_of [(1, .ptr 1 0), (3, .d (.bool (cmpS .neq (⟨#[]⟩) (⟨#[]⟩)))), (4, .d (.bool (decide ((0 : Int) < ((ns.length : Nat) : Int))))), (5, .d (.bool false))] [(1, some ⟨41, 6, [.d (.str g), .d (.int .i64 2), .d (.str (⟨#[]⟩)), .d (.sl ns.length 1 (intsD ns)), .d (.int .i64 0), .d (.sl 0 0 [])]⟩)] [1] (sE rfl (sE rfl (sE rfl (sE rfl sE0)))) (sH rfl sH0) (by kernel_rfl)) ?_
  refine aw_seq ?_
  refine aw_region_seq [⟨.d (.fn 41), [], [], []⟩] (by kernel_rfl) (by kernel_rfl) (fun id _ => hG id) ?_ ?_
  · exact okY rfl (LT_assign rfl rfl) <| okE
  change AW _ _ _ _ _ _
  refine aw_weak (weak_of [(1, .ptr 1 0), (3, .d (.bool (cmpS .neq (⟨#[]⟩) (⟨#[]⟩)))), (4, .d (.bool (decide ((0 : Int) < ((ns.length : Nat) : Int))))), (5, .d (.bool false)), (6, .d (.fn 41))] [(1, some ⟨41, 6, [.d (.str g), .d (.int .i64 2), .d (.str (⟨#[]⟩)), .d (.sl ns.length 1 (intsD ns)), .d (.int .i64 0), .d (.sl 0 0 [])]⟩)] [1] (sE rfl (sE rfl (sE rfl (sE rfl (sE rfl sE0))))) (sH rfl sH0) (by kernel_rfl)) ?_
  refine aw_seq ?_
  refine aw_region_seq [⟨.d (.bool false), [], [], []⟩] (by kernel_rfl) (by kernel_rfl) (fun id _ => hG id) ?_ ?_
  · exact okY rfl (LT_assign rfl rfl) <| okE
  change AW _ _ _ _ _ _
  refine aw_weak (weak_of [(1, .ptr 1 0), (3, .d (.bool (cmpS .neq (⟨#[]⟩) (⟨#[]⟩)))), (4, .d (.bool (decide ((0 : Int) < ((ns.length : Nat) : Int))))), (5, .d (.bool false)), (6, .d (.fn 41)), (7, .d (.bool false))] [(1, some ⟨41, 6, [.d (.str g), .d (.int .i64 2), .d (.str (⟨#[]⟩)), .d (.sl ns.length 1 (intsD ns)), .d (.int .i64 0), .d (.sl 0 0 [])]⟩)] [1] (sE rfl (sE rfl (sE rfl (sE rfl (sE rfl (sE rfl sE0)))))) (sH rfl sH0) (by kernel_rfl)) ?_
  refine aw_seq ?_
  refine aw_seq ?_
  refine aw_region_seq [⟨.ptr 1 1, [], [], []⟩, ⟨.d (.int .i64 2), [], [], [1]⟩] (by kernel_rfl) (by kernel_rfl) (fun id _ => hG id) ?_ ?_
  · exact okY rfl (LT_fieldAddr rfl rfl Tryz.underlying41 rfl inf3 (by decide) _ rfl) <| okY rfl (LT_load 1 rfl rfl rfl (List.Mem.head _) Tryz.underlying3 inf3 (by simp) (.inr ⟨rfl, rfl, rfl⟩)) <| okE
  change AW _ _ _ _ _ _
  refine aw_weak (weak_of [(1, .ptr 1 0), (3, .d (.bool (cmpS .neq (⟨#[]⟩) (⟨#[]⟩)))), (4, .d (.bool (decide ((0 : Int) < ((ns.length : Nat) : Int))))), (5, .d (.bool false)), (6, .d (.fn 41)), (7, .d (.bool false)), (27, .d (.int .i64 2))] [(1, some ⟨41, 6, [.d (.str g), .d (.int .i64 2), .d (.str (⟨#[]⟩)), .d (.sl ns.length 1 (intsD ns)), .d (.int .i64 0), .d (.sl 0 0 [])]⟩)] [1] (sE rfl (sE rfl (sE rfl (sE rfl (sE rfl (sE rfl (sE rfl sE0))))))) (sH rfl sH0) (by kernel_rfl)) ?_
  refine aw_block ?_
  refine aw_seq ?_
  refine aw_region_seq [⟨.d (.bool false), [], [], []⟩, ⟨.d (.bool false), [], [], []⟩] (by kernel_rfl) (by kernel_rfl) (fun id _ => hG id) ?_ ?_
  · exact okY rfl (LT_cmp rfl rfl rfl rfl rfl) <| okY rfl (LT_assign rfl rfl) <| okE
  change AW _ _ _ _ _ _
  refine aw_weak (weak_of [(1, .ptr 1 0), (3, .d (.bool (cmpS .neq (⟨#[]⟩) (⟨#[]⟩)))), (4, .d (.bool (decide ((0 : Int) < ((ns.length : Nat) : Int))))), (5, .d (.bool false)), (6, .d (.fn 41)), (7, .d (.bool false)), (27, .d (.int .i64 2)), (28, .d (.bool false))] [(1, some ⟨41, 6, [.d (.str g), .d (.int .i64 2), .d (.str (⟨#[]⟩)), .d (.sl ns.length 1 (intsD ns)), .d (.int .i64 0), .d (.sl 0 0 [])]⟩)] [1] (sE rfl (sE rfl (sE rfl (sE rfl (sE rfl (sE rfl (sE rfl (sE rfl sE0)))))))) (sH rfl sH0) (by kernel_rfl)) ?_
  refine aw_condF rfl ?_
  refine aw_seq ?_
  refine aw_region_seq [⟨.d (.bool true), [], [], []⟩, ⟨.d (.bool true), [], [], []⟩] (by kernel_rfl) (by kernel_rfl) (fun id _ => hG id) ?_ ?_
  · exact okY rfl (LT_cmp rfl rfl rfl rfl rfl) <| okY rfl (LT_assign rfl rfl) <| okE
  change AW _ _ _ _ _ _
  refine aw_weak (weak_of [(1, .ptr 1 0), (3, .d (.bool (cmpS .neq (⟨#[]⟩) (⟨#[]⟩)))), (4, .d (.bool (decide ((0 : Int) < ((ns.length : Nat) : Int))))), (5, .d (.bool false)), (6, .d (.fn 41)), (7, .d (.bool false)), (27, .d (.int .i64 2)), (50, .d (.bool true))] [(1, some ⟨41, 6, [.d (.str g), .d (.int .i64 2), .d (.str (⟨#[]⟩)), .d (.sl ns.length 1 (intsD ns)), .d (.int .i64 0), .d (.sl 0 0 [])]⟩)] [1] (sE rfl (sE rfl (sE rfl (sE rfl (sE rfl (sE rfl (sE rfl (sE rfl sE0)))))))) (sH rfl sH0) (by kernel_rfl)) ?_
  refine aw_condT rfl ?_
  refine aw_region_seq [⟨.d (.bool (decide ((0 : Int) < ((ns.length : Nat) : Int)))), [], [], []⟩, ⟨.d (.bool (decide ((0 : Int) < ((ns.length : Nat) : Int)))), [], [], []⟩, ⟨.opt ((decide ((0 : Int) < ((ns.length : Nat) : Int))) == true) (.ptr 1 3), [], [], []⟩, ⟨.opt ((decide ((0 : Int) < ((ns.length : Nat) : Int))) == true) (.d (.sl ns.length 1 (intsD ns))), [], [], [1]⟩, ⟨.opt ((decide ((0 : Int) < ((ns.length : Nat) : Int))) == true) (.d (.int .i64 ((ns.length : Nat) : Int))), [], [], []⟩, ⟨.opt ((decide ((0 : Int) < ((ns.length : Nat) : Int))) == true) (.d (.bool (decide ((((ns.length : Nat) : Int) : Int) ≤ 12)))), [], [], []⟩, ⟨.d (.bool ((decide ((0 : Int) < ((ns.length : Nat) : Int))) && (decide ((((ns.length : Nat) : Int) : Int) ≤ 12)))), [], [], []⟩, ⟨.d (.bool ((decide ((0 : Int) < ((ns.length : Nat) : Int))) && (decide ((((ns.length : Nat) : Int) : Int) ≤ 12)))), [], [], []⟩, ⟨.opt (((decide ((0 : Int) < ((ns.length : Nat) : Int))) && (decide ((((ns.length : Nat) : Int) : Int) ≤ 12))) == true) (.ptr 1 3), [], [], []⟩, ⟨.opt (((decide ((0 : Int) < ((ns.length : Nat) : Int))) && (decide ((((ns.length : Nat) : Int) : Int) ≤ 12))) == true) (.d (.sl ns.length 1 (intsD ns))), [], [], [1]⟩, ⟨.opt (((decide ((0 : Int) < ((ns.length : Nat) : Int))) && (decide ((((ns.length : Nat) : Int) : Int) ≤ 12))) == true) (.d (.fn 41)), [], [], []⟩, ⟨.opt (((decide ((0 : Int) < ((ns.length : Nat) : Int))) && (decide ((((ns.length : Nat) : Int) : Int) ≤ 12))) == true) (.d (.bool (anyN (fun j => bigI (ns.getD j 0)) ns.length))), [], [], []⟩, ⟨.opt (((decide ((0 : Int) < ((ns.length : Nat) : Int))) && (decide ((((ns.length : Nat) : Int) : Int) ≤ 12))) == true) (.d (.bool (!(anyN (fun j => bigI (ns.getD j 0)) ns.length)))), [], [], []⟩, ⟨.d (.bool (((decide ((0 : Int) < ((ns.length : Nat) : Int))) && (decide ((((ns.length : Nat) : Int) : Int) ≤ 12))) && (!(anyN (fun j => bigI (ns.getD j 0)) ns.length)))), [], [], []⟩, ⟨.d (.bool (((decide ((0 : Int) < ((ns.length : Nat) : Int))) && (decide ((((ns.length : Nat) : Int) : Int) ≤ 12))) && (!(anyN (fun j => bigI (ns.getD j 0)) ns.length)))), [], [], []⟩, ⟨.opt ((((decide ((0 : Int) < ((ns.length : Nat) : Int))) && (decide ((((ns.length : Nat) : Int) : Int) ≤ 12))) && (!(anyN (fun j => bigI (ns.getD j 0)) ns.length))) == true) (.d (.bool (cmpS .neq (⟨#[]⟩) (⟨#[]⟩)))), [], [], []⟩, ⟨.opt ((((decide ((0 : Int) < ((ns.length : Nat) : Int))) && (decide ((((ns.length : Nat) : Int) : Int) ≤ 12))) && (!(anyN (fun j => bigI (ns.getD j 0)) ns.length))) == true) (.d (.bool (!(cmpS .neq (⟨#[]⟩) (⟨#[]⟩))))), [], [], []⟩, ⟨.d (.bool ((((decide ((0 : Int) < ((ns.length : Nat) : Int))) && (decide ((((ns.length : Nat) : Int) : Int) ≤ 12))) && (!(anyN (fun j => bigI (ns.getD j 0)) ns.length))) && (!(cmpS .neq (⟨#[]⟩) (⟨#[]⟩))))), [], [], []⟩, ⟨.d (.bool ((((decide ((0 : Int) < ((ns.length : Nat) : Int))) && (decide ((((ns.length : Nat) : Int) : Int) ≤ 12))) && (!(anyN (fun j => bigI (ns.getD j 0)) ns.length))) && (!(cmpS .neq (⟨#[]⟩) (⟨#[]⟩))))), [], [], []⟩, ⟨.opt (((((decide ((0 : Int) < ((ns.length : Nat) : Int))) && (decide ((((ns.length : Nat) : Int) : Int) ≤ 12))) && (!(anyN (fun j => bigI (ns.getD j 0)) ns.length))) && (!(cmpS .neq (⟨#[]⟩) (⟨#[]⟩)))) == true) (.d (.bool false)), [], [], []⟩, ⟨.opt (((((decide ((0 : Int) < ((ns.length : Nat) : Int))) && (decide ((((ns.length : Nat) : Int) : Int) ≤ 12))) && (!(anyN (fun j => bigI (ns.getD j 0)) ns.length))) && (!(cmpS .neq (⟨#[]⟩) (⟨#[]⟩)))) == true) (.d (.bool true)), [], [], []⟩, ⟨.d (.bool (((((decide ((0 : Int) < ((ns.length : Nat) : Int))) && (decide ((((ns.length : Nat) : Int) : Int) ≤ 12))) && (!(anyN (fun j => bigI (ns.getD j 0)) ns.length))) && (!(cmpS .neq (⟨#[]⟩) (⟨#[]⟩)))) && true)), [], [], []⟩, ⟨.d (.bool (((((decide ((0 : Int) < ((ns.length : Nat) : Int))) && (decide ((((ns.length : Nat) : Int) : Int) ≤ 12))) && (!(anyN (fun j => bigI (ns.getD j 0)) ns.length))) && (!(cmpS .neq (⟨#[]⟩) (⟨#[]⟩)))) && true)), [], [], []⟩] (by kernel_rfl) (by kernel_rfl) (fun id _ => hG id) ?_ ?_
  · exact okY rfl (LT_move rfl rfl) <| okY rfl (LT_move rfl rfl) <| okG ((decide ((0 : Int) < ((ns.length : Nat) : Int))) == true) rfl (fun hg => (LT_fieldAddr rfl rfl Tryz.underlying41 rfl inf36 (by decide) _ rfl)) <| okG ((decide ((0 : Int) < ((ns.length : Nat) : Int))) == true) rfl (fun hg => (LT_load 1 rfl (opnT rfl hg) rfl (List.Mem.head _) Tryz.underlying36 inf36 (by simp) (.inr ⟨rfl, rfl, rfl⟩))) <| okG ((decide ((0 : Int) < ((ns.length : Nat) : Int))) == true) rfl (fun hg => (LT_lenD rfl Tryz.underlying36 (opnT rfl hg))) <| okG ((decide ((0 : Int) < ((ns.length : Nat) : Int))) == true) rfl (fun hg => (LT_cmp rfl rfl (opnT rfl hg) rfl rfl)) <| okY rfl (LT_pand rfl rfl rfl (fun h => by rw [h]; rfl)) <| okY rfl (LT_move rfl rfl) <| okG (((decide ((0 : Int) < ((ns.length : Nat) : Int))) && (decide ((((ns.length : Nat) : Int) : Int) ≤ 12))) == true) rfl (fun hg => (LT_fieldAddr rfl rfl Tryz.underlying41 rfl inf36 (by decide) _ rfl)) <| okG (((decide ((0 : Int) < ((ns.length : Nat) : Int))) && (decide ((((ns.length : Nat) : Int) : Int) ≤ 12))) == true) rfl (fun hg => (LT_load 1 rfl (opnT rfl hg) rfl (List.Mem.head _) Tryz.underlying36 inf36 (by simp) (.inr ⟨rfl, rfl, rfl⟩))) <| okG (((decide ((0 : Int) < ((ns.length : Nat) : Int))) && (decide ((((ns.length : Nat) : Int) : Int) ≤ 12))) == true) rfl (fun hg => (LT_move rfl rfl)) <| okG (((decide ((0 : Int) < ((ns.length : Nat) : Int))) && (decide ((((ns.length : Nat) : Int) : Int) ≤ 12))) == true) rfl (fun hg => (LT_call [.d (.sl ns.length 1 (intsD ns)), .d (.fn 41)] rfl rfl Tryz.call43 (consE (opnT rfl hg) (consE (opnT rfl hg) rfl)) ((hasI_pc ns hs').ct rfl))) <| okG (((decide ((0 : Int) < ((ns.length : Nat) : Int))) && (decide ((((ns.length : Nat) : Int) : Int) ≤ 12))) == true) rfl (fun hg => (LT_not rfl (opnT rfl hg) rfl)) <| okY rfl (LT_pand rfl rfl rfl (fun h => by rw [h]; rfl)) <| okY rfl (LT_move rfl rfl) <| okG ((((decide ((0 : Int) < ((ns.length : Nat) : Int))) && (decide ((((ns.length : Nat) : Int) : Int) ≤ 12))) && (!(anyN (fun j => bigI (ns.getD j 0)) ns.length))) == true) rfl (fun hg => (LT_move rfl rfl)) <| okG ((((decide ((0 : Int) < ((ns.length : Nat) : Int))) && (decide ((((ns.length : Nat) : Int) : Int) ≤ 12))) && (!(anyN (fun j => bigI (ns.getD j 0)) ns.length))) == true) rfl (fun hg => (LT_not rfl (opnT rfl hg) rfl)) <| okY rfl (LT_pand rfl rfl rfl (fun h => by rw [h]; rfl)) <| okY rfl (LT_move rfl rfl) <| okG (((((decide ((0 : Int) < ((ns.length : Nat) : Int))) && (decide ((((ns.length : Nat) : Int) : Int) ≤ 12))) && (!(anyN (fun j => bigI (ns.getD j 0)) ns.length))) && (!(cmpS .neq (⟨#[]⟩) (⟨#[]⟩)))) == true) rfl (fun hg => (LT_move rfl rfl)) <| okG (((((decide ((0 : Int) < ((ns.length : Nat) : Int))) && (decide ((((ns.length : Nat) : Int) : Int) ≤ 12))) && (!(anyN (fun j => bigI (ns.getD j 0)) ns.length))) && (!(cmpS .neq (⟨#[]⟩) (⟨#[]⟩)))) == true) rfl (fun hg => (LT_not rfl (opnT rfl hg) rfl)) <| okY rfl (LT_pand rfl rfl rfl (fun h => by rw [h]; rfl)) <| okY rfl (LT_assign rfl rfl) <| okE
  change AW _ _ _ _ _ _
  refine aw_weak (weak_of [(1, .ptr 1 0), (7, .d (.bool (((((decide ((0 : Int) < ((ns.length : Nat) : Int))) && (decide ((((ns.length : Nat) : Int) : Int) ≤ 12))) && (!(anyN (fun j => bigI (ns.getD j 0)) ns.length))) && (!(cmpS .neq (⟨#[]⟩) (⟨#[]⟩)))) && true)))] [(1, some ⟨41, 6, [.d (.str g), .d (.int .i64 2), .d (.str (⟨#[]⟩)), .d (.sl ns.length 1 (intsD ns)), .d (.int .i64 0), .d (.sl 0 0 [])]⟩)] [1] (sE rfl (sE rfl sE0)) (sH rfl sH0) (by kernel_rfl)) ?_
  refine aw_seq ?_
  refine aw_seq ?_
  refine aw_region_seq [⟨.d (.bool (((((decide ((0 : Int) < ((ns.length : Nat) : Int))) && (decide ((((ns.length : Nat) : Int) : Int) ≤ 12))) && (!(anyN (fun j => bigI (ns.getD j 0)) ns.length))) && (!(cmpS .neq (⟨#[]⟩) (⟨#[]⟩)))) && true)), [], [], []⟩, ⟨.d (.bool (!(((((decide ((0 : Int) < ((ns.length : Nat) : Int))) && (decide ((((ns.length : Nat) : Int) : Int) ≤ 12))) && (!(anyN (fun j => bigI (ns.getD j 0)) ns.length))) && (!(cmpS .neq (⟨#[]⟩) (⟨#[]⟩)))) && true))), [], [], []⟩, ⟨.d (.bool (!(((((decide ((0 : Int) < ((ns.length : Nat) : Int))) && (decide ((((ns.length : Nat) : Int) : Int) ≤ 12))) && (!(anyN (fun j => bigI (ns.getD j 0)) ns.length))) && (!(cmpS .neq (⟨#[]⟩) (⟨#[]⟩)))) && true))), [], [], []⟩, ⟨.opt ((!(((((decide ((0 : Int) < ((ns.length : Nat) : Int))) && (decide ((((ns.length : Nat) : Int) : Int) ≤ 12))) && (!(anyN (fun j => bigI (ns.getD j 0)) ns.length))) && (!(cmpS .neq (⟨#[]⟩) (⟨#[]⟩)))) && true)) == false) (.ptr 1 0), [], [], []⟩, ⟨.opt ((!(((((decide ((0 : Int) < ((ns.length : Nat) : Int))) && (decide ((((ns.length : Nat) : Int) : Int) ≤ 12))) && (!(anyN (fun j => bigI (ns.getD j 0)) ns.length))) && (!(cmpS .neq (⟨#[]⟩) (⟨#[]⟩)))) && true)) == false) (.d (.str g)), [], [], [1]⟩, ⟨.opt ((!(((((decide ((0 : Int) < ((ns.length : Nat) : Int))) && (decide ((((ns.length : Nat) : Int) : Int) ≤ 12))) && (!(anyN (fun j => bigI (ns.getD j 0)) ns.length))) && (!(cmpS .neq (⟨#[]⟩) (⟨#[]⟩)))) && true)) == false) (.d (.bool true)), [], [], []⟩, ⟨.opt ((!(((((decide ((0 : Int) < ((ns.length : Nat) : Int))) && (decide ((((ns.length : Nat) : Int) : Int) ≤ 12))) && (!(anyN (fun j => bigI (ns.getD j 0)) ns.length))) && (!(cmpS .neq (⟨#[]⟩) (⟨#[]⟩)))) && true)) == false) (.d (.bool false)), [], [], []⟩, ⟨.d (.bool ((!(((((decide ((0 : Int) < ((ns.length : Nat) : Int))) && (decide ((((ns.length : Nat) : Int) : Int) ≤ 12))) && (!(anyN (fun j => bigI (ns.getD j 0)) ns.length))) && (!(cmpS .neq (⟨#[]⟩) (⟨#[]⟩)))) && true)) || false)), [], [], []⟩] (by kernel_rfl) (by kernel_rfl) (fun id _ => hG id) ?_ ?_
  · exact okY rfl (LT_move rfl rfl) <| okY rfl (LT_not rfl rfl rfl) <| okY rfl (LT_move rfl rfl) <| okG ((!(((((decide ((0 : Int) < ((ns.length : Nat) : Int))) && (decide ((((ns.length : Nat) : Int) : Int) ≤ 12))) && (!(anyN (fun j => bigI (ns.getD j 0)) ns.length))) && (!(cmpS .neq (⟨#[]⟩) (⟨#[]⟩)))) && true)) == false) rfl (fun hg => (LT_fieldAddr rfl rfl Tryz.underlying41 rfl inf9 (by decide) _ rfl)) <| okG ((!(((((decide ((0 : Int) < ((ns.length : Nat) : Int))) && (decide ((((ns.length : Nat) : Int) : Int) ≤ 12))) && (!(anyN (fun j => bigI (ns.getD j 0)) ns.length))) && (!(cmpS .neq (⟨#[]⟩) (⟨#[]⟩)))) && true)) == false) rfl (fun hg => (LT_load 1 rfl (opnT rfl hg) rfl (List.Mem.head _) Tryz.underlying9 inf9 (by simp) (.inr ⟨rfl, rfl, rfl⟩))) <| okG ((!(((((decide ((0 : Int) < ((ns.length : Nat) : Int))) && (decide ((((ns.length : Nat) : Int) : Int) ≤ 12))) && (!(anyN (fun j => bigI (ns.getD j 0)) ns.length))) && (!(cmpS .neq (⟨#[]⟩) (⟨#[]⟩)))) && true)) == false) rfl (fun hg => (LT_call [.d (.str g)] rfl rfl Tryz.call45 (consE (opnT rfl hg) rfl) (hgg.ct rfl))) <| okG ((!(((((decide ((0 : Int) < ((ns.length : Nat) : Int))) && (decide ((((ns.length : Nat) : Int) : Int) ≤ 12))) && (!(anyN (fun j => bigI (ns.getD j 0)) ns.length))) && (!(cmpS .neq (⟨#[]⟩) (⟨#[]⟩)))) && true)) == false) rfl (fun hg => (LT_not rfl (opnT rfl hg) rfl)) <| okY rfl (LT_por rfl rfl rfl (fun h => by rw [h]; rfl)) <| okE
  change AW _ _ _ _ _ _
  refine aw_weak (weak_of [(95, .d (.bool ((!(((((decide ((0 : Int) < ((ns.length : Nat) : Int))) && (decide ((((ns.length : Nat) : Int) : Int) ≤ 12))) && (!(anyN (fun j => bigI (ns.getD j 0)) ns.length))) && (!(cmpS .neq (⟨#[]⟩) (⟨#[]⟩)))) && true)) || false)))] [] [] (sE rfl sE0) sH0 (by kernel_rfl)) ?_
  refine aw_cond ((!(((((decide ((0 : Int) < ((ns.length : Nat) : Int))) && (decide ((((ns.length : Nat) : Int) : Int) ≤ 12))) && (!(anyN (fun j => bigI (ns.getD j 0)) ns.length))) && (!(cmpS .neq (⟨#[]⟩) (⟨#[]⟩)))) && true)) || false) rfl (fun hb1 => ?_) (fun hb1 => ?_)
  ·
    exfalso
    have hs2 : ((ns.length : Nat) : Int) ≤ 12 := by omega
    have hs3 : (0 : Int) < ((ns.length : Nat) : Int) := by omega
    rw [hb] at hb1
    simp [hs2, cmpS] at hb1
    subst hb1
    simp at h0
  ·
    refine aw_skip ?_
    change AW _ _ _ _ _ _
    refine aw_weak (weak_of [] [] [] sE0 sH0 (by kernel_rfl)) ?_
    refine aw_seq ?_
    refine aw_region_seq [⟨.d (.int .i64 0), [], [], []⟩] (by kernel_rfl) (by kernel_rfl) (fun id _ => hG id) ?_ ?_
    · exact okY rfl (LT_assign rfl rfl) <| okE
    change AW _ _ _ _ _ _
    refine aw_weak (weak_of [(2, .d (.int .i64 0))] [] [] (sE rfl sE0) sH0 (by kernel_rfl)) ?_
    refine aw_ret ?_
    refine fin1 (x := .d (.int .i64 0)) (.inl rfl) Tryz.results18 rfl ?_
    exact rfl

set_option maxRecDepth 100000 in
set_option maxHeartbeats 2000000 in
theorem check_none (g : ByteArray) (hgg : PC Tryz.prog 45 [.d (.str g)] (.d (.bool true))) : PC Tryz.prog 18 [.agg [.d (.str g), .d (.int .i64 2), .d (.str (⟨#[]⟩)), .d (.sl 0 0 []), .d (.int .i64 0), .d (.sl 0 0 [])]] (.d (.int .i64 150)) := by
  refine PC_of (fn := Tryz.f18) Tryz.func18 rfl (by simp [Tryz.ntmps18]) (by kernel_rfl) fun G hG => ?_
  rw [Tryz.ntmps18]
  refine aw_seq ?_
  refine aw_region_seq [⟨.ptr 1 0, [(1, some ⟨41, 6, [.d (.str g), .d (.int .i64 2), .d (.str (⟨#[]⟩)), .d (.sl 0 0 []), .d (.int .i64 0), .d (.sl 0 0 [])]⟩)], [1], []⟩, ⟨.d (.int .i64 0), [], [], []⟩] (by kernel_rfl) (by kernel_rfl) (fun id _ => hG id) ?_ ?_
  · exact okY rfl (LT_box (x := .agg [.d (.str g), .d (.int .i64 2), .d (.str (⟨#[]⟩)), .d (.sl 0 0 []), .d (.int .i64 0), .d (.sl 0 0 [])]) 1 rfl rfl rfl 6 rfl (List.Mem.head _)) <| okY rfl (LT_assign rfl rfl) <| okE
  change AW _ _ _ _ _ _
  refine aw_weak (weak_of [(1, .ptr 1 0)] [(1, some ⟨41, 6, [.d (.str g), .d (.int .i64 2), .d (.str (⟨#[]⟩)), .d (.sl 0 0 []), .d (.int .i64 0), .d (.sl 0 0 [])]⟩)] [1] (sE rfl sE0) (sH rfl sH0) (by kernel_rfl)) ?_
  refine aw_seq ?_
  refine aw_region_any rfl [⟨.ptr 1 2, [], [], []⟩, ⟨.d (.str (⟨#[]⟩)), [], [], [1]⟩, ⟨.d (.bool (cmpS .neq (⟨#[]⟩) (⟨#[]⟩))), [], [], []⟩, ⟨.ptr 1 3, [], [], []⟩, ⟨.d (.sl 0 0 []), [], [], [1]⟩, ⟨.d (.int .i64 0), [], [], []⟩, ⟨.d (.bool false), [], [], []⟩, ⟨.ptr 1 4, [], [], []⟩, ⟨.ptr 1 4, [], [], []⟩, ⟨.d (.int .i64 0), [], [], [1]⟩, ⟨.d (.bool false), [], [], []⟩, ⟨.d (.bool false), [], [], []⟩, ⟨.ptr 1 4, [], [], []⟩, ⟨.ptr 1 5, [], [], []⟩, ⟨.d (.sl 0 0 []), [], [], [1]⟩, ⟨.d (.int .i64 0), [], [], []⟩, ⟨.d (.bool false), [], [], []⟩, ⟨.d (.bool false), [], [], []⟩, ⟨.d (.bool (cmpS .neq (⟨#[]⟩) (⟨#[]⟩))), [], [], []⟩, ⟨.d (.bool false), [], [], []⟩, ⟨.d (.bool false), [], [], []⟩] (by kernel_rfl) (by kernel_rfl) (by kernel_rfl) (fun id _ => hG id) ?_ ?_
  · exact okY rfl (LT_fieldAddr rfl rfl Tryz.underlying41 rfl inf9 (by decide) _ rfl) <| okY rfl (LT_load 1 rfl rfl rfl (List.Mem.head _) Tryz.underlying9 inf9 (by simp) (.inr ⟨rfl, rfl, rfl⟩)) <| okY rfl (LT_strcmp rfl rfl rfl rfl rfl) <| okY rfl (LT_fieldAddr rfl rfl Tryz.underlying41 rfl inf36 (by decide) _ rfl) <| okY rfl (LT_load 1 rfl rfl rfl (List.Mem.head _) Tryz.underlying36 inf36 (by simp) (.inr ⟨rfl, rfl, rfl⟩)) <| okY rfl (LT_lenD rfl Tryz.underlying36 rfl) <| okY rfl (LT_cmp rfl rfl rfl rfl rfl) <| okY rfl (LT_fieldAddr rfl rfl Tryz.underlying41 rfl inf39 (by decide) _ rfl) <| okY rfl (LT_fieldAddr rfl rfl Tryz.underlying39 rfl inf3 (by decide) _ rfl) <| okY rfl (LT_load 1 rfl rfl rfl (List.Mem.head _) Tryz.underlying3 inf3 (by simp) (.inr ⟨rfl, rfl, rfl⟩)) <| okY rfl (LT_cmp rfl rfl rfl rfl rfl) <| okY rfl (LT_move rfl rfl) <| okY rfl (LT_fieldAddr rfl rfl Tryz.underlying41 rfl inf39 (by decide) _ rfl) <| okY rfl (LT_fieldAddr rfl rfl Tryz.underlying39 rfl inf37 (by decide) _ rfl) <| okY rfl (LT_load 1 rfl rfl rfl (List.Mem.head _) Tryz.underlying37 inf37 (by simp) (.inr ⟨rfl, rfl, rfl⟩)) <| okY rfl (LT_lenD rfl Tryz.underlying37 rfl) <| okY rfl (LT_cmp rfl rfl rfl rfl rfl) <| okY rfl (LT_pick rfl rfl (fun h => by cases h) (fun _ _ _ _ _ h => h)) <| okY rfl (LT_assign rfl rfl) <| okY rfl (LT_assign rfl rfl) <| okY rfl (LT_assign rfl rfl) <| okE
  change AW _ _ _ _ _ _
  refine aw_weak (weak_of [(1, .ptr 1 0), (3, .d (.bool (cmpS .neq (⟨#[]⟩) (⟨#[]⟩)))), (4, .d (.bool false)), (5, .d (.bool false))] [(1, some ⟨41, 6, [.d (.str g), .d (.int .i64 2), .d (.str (⟨#[]⟩)), .d (.sl 0 0 []), .d (.int .i64 0), .d (.sl 0 0 [])]⟩)] [1] (sE rfl (sE rfl (sE rfl (sE rfl sE0)))) (sH rfl sH0) (by kernel_rfl)) ?_
  refine aw_seq ?_
  refine aw_region_seq [⟨.d (.fn 41), [], [], []⟩] (by kernel_rfl) (by kernel_rfl) (fun id _ => hG id) ?_ ?_
  · exact okY rfl (LT_assign rfl rfl) <| okE
  change AW _ _ _ _ _ _
  refine aw_weak (weak_of [(1, .ptr 1 0), (3, .d (.bool (cmpS .neq (⟨#[]⟩) (⟨#[]⟩)))), (4, .d (.bool false)), (5, .d (.bool false)), (6, .d (.fn 41))] [(1, some ⟨41, 6, [.d (.str g), .d (.int .i64 2), .d (.str (⟨#[]⟩)), .d (.sl 0 0 []), .d (.int .i64 0), .d (.sl 0 0 [])]⟩)] [1] (sE rfl (sE rfl (sE rfl (sE rfl (sE rfl sE0))))) (sH rfl sH0) (by kernel_rfl)) ?_
  refine aw_seq ?_
  refine aw_region_seq [⟨.d (.bool false), [], [], []⟩] (by kernel_rfl) (by kernel_rfl) (fun id _ => hG id) ?_ ?_
  · exact okY rfl (LT_assign rfl rfl) <| okE
  change AW _ _ _ _ _ _
  refine aw_weak (weak_of [(1, .ptr 1 0), (3, .d (.bool (cmpS .neq (⟨#[]⟩) (⟨#[]⟩)))), (4, .d (.bool false)), (5, .d (.bool false)), (6, .d (.fn 41)), (7, .d (.bool false))] [(1, some ⟨41, 6, [.d (.str g), .d (.int .i64 2), .d (.str (⟨#[]⟩)), .d (.sl 0 0 []), .d (.int .i64 0), .d (.sl 0 0 [])]⟩)] [1] (sE rfl (sE rfl (sE rfl (sE rfl (sE rfl (sE rfl sE0)))))) (sH rfl sH0) (by kernel_rfl)) ?_
  refine aw_seq ?_
  refine aw_seq ?_
  refine aw_region_seq [⟨.ptr 1 1, [], [], []⟩, ⟨.d (.int .i64 2), [], [], [1]⟩] (by kernel_rfl) (by kernel_rfl) (fun id _ => hG id) ?_ ?_
  · exact okY rfl (LT_fieldAddr rfl rfl Tryz.underlying41 rfl inf3 (by decide) _ rfl) <| okY rfl (LT_load 1 rfl rfl rfl (List.Mem.head _) Tryz.underlying3 inf3 (by simp) (.inr ⟨rfl, rfl, rfl⟩)) <| okE
  change AW _ _ _ _ _ _
  refine aw_weak (weak_of [(1, .ptr 1 0), (3, .d (.bool (cmpS .neq (⟨#[]⟩) (⟨#[]⟩)))), (4, .d (.bool false)), (5, .d (.bool false)), (6, .d (.fn 41)), (7, .d (.bool false)), (27, .d (.int .i64 2))] [(1, some ⟨41, 6, [.d (.str g), .d (.int .i64 2), .d (.str (⟨#[]⟩)), .d (.sl 0 0 []), .d (.int .i64 0), .d (.sl 0 0 [])]⟩)] [1] (sE rfl (sE rfl (sE rfl (sE rfl (sE rfl (sE rfl (sE rfl sE0))))))) (sH rfl sH0) (by kernel_rfl)) ?_
  refine aw_block ?_
  refine aw_seq ?_
  refine aw_region_seq [⟨.d (.bool false), [], [], []⟩, ⟨.d (.bool false), [], [], []⟩] (by kernel_rfl) (by kernel_rfl) (fun id _ => hG id) ?_ ?_
  · exact okY rfl (LT_cmp rfl rfl rfl rfl rfl) <| okY rfl (LT_assign rfl rfl) <| okE
  change AW _ _ _ _ _ _
  refine aw_weak (weak_of [(1, .ptr 1 0), (3, .d (.bool (cmpS .neq (⟨#[]⟩) (⟨#[]⟩)))), (4, .d (.bool false)), (5, .d (.bool false)), (6, .d (.fn 41)), (7, .d (.bool false)), (27, .d (.int .i64 2)), (28, .d (.bool false))] [(1, some ⟨41, 6, [.d (.str g), .d (.int .i64 2), .d (.str (⟨#[]⟩)), .d (.sl 0 0 []), .d (.int .i64 0), .d (.sl 0 0 [])]⟩)] [1] (sE rfl (sE rfl (sE rfl (sE rfl (sE rfl (sE rfl (sE rfl (sE rfl sE0)))))))) (sH rfl sH0) (by kernel_rfl)) ?_
  refine aw_condF rfl ?_
  refine aw_seq ?_
  refine aw_region_seq [⟨.d (.bool true), [], [], []⟩, ⟨.d (.bool true), [], [], []⟩] (by kernel_rfl) (by kernel_rfl) (fun id _ => hG id) ?_ ?_
  · exact okY rfl (LT_cmp rfl rfl rfl rfl rfl) <| okY rfl (LT_assign rfl rfl) <| okE
  change AW _ _ _ _ _ _
  refine aw_weak (weak_of [(1, .ptr 1 0), (3, .d (.bool (cmpS .neq (⟨#[]⟩) (⟨#[]⟩)))), (4, .d (.bool false)), (5, .d (.bool false)), (6, .d (.fn 41)), (7, .d (.bool false)), (27, .d (.int .i64 2)), (50, .d (.bool true))] [(1, some ⟨41, 6, [.d (.str g), .d (.int .i64 2), .d (.str (⟨#[]⟩)), .d (.sl 0 0 []), .d (.int .i64 0), .d (.sl 0 0 [])]⟩)] [1] (sE rfl (sE rfl (sE rfl (sE rfl (sE rfl (sE rfl (sE rfl (sE rfl sE0)))))))) (sH rfl sH0) (by kernel_rfl)) ?_
  refine aw_condT rfl ?_
  refine aw_region_seq [⟨.d (.bool false), [], [], []⟩, ⟨.d (.bool false), [], [], []⟩, ⟨.tup [], [], [], []⟩, ⟨.tup [], [], [], []⟩, ⟨.tup [], [], [], []⟩, ⟨.tup [], [], [], []⟩, ⟨.d (.bool false), [], [], []⟩, ⟨.d (.bool false), [], [], []⟩, ⟨.tup [], [], [], []⟩, ⟨.tup [], [], [], []⟩, ⟨.tup [], [], [], []⟩, ⟨.tup [], [], [], []⟩, ⟨.tup [], [], [], []⟩, ⟨.d (.bool false), [], [], []⟩, ⟨.d (.bool false), [], [], []⟩, ⟨.tup [], [], [], []⟩, ⟨.tup [], [], [], []⟩, ⟨.d (.bool false), [], [], []⟩, ⟨.d (.bool false), [], [], []⟩, ⟨.tup [], [], [], []⟩, ⟨.tup [], [], [], []⟩, ⟨.d (.bool false), [], [], []⟩, ⟨.d (.bool false), [], [], []⟩] (by kernel_rfl) (by kernel_rfl) (fun id _ => hG id) ?_ ?_
  · exact okY rfl (LT_move rfl rfl) <| okY rfl (LT_move rfl rfl) <| okN rfl <| okN rfl <| okN rfl <| okN rfl <| okY rfl (LT_pick rfl rfl (fun h => by cases h) (fun _ _ _ _ _ h => h)) <| okY rfl (LT_move rfl rfl) <| okN rfl <| okN rfl <| okN rfl <| okN rfl <| okN rfl <| okY rfl (LT_pick rfl rfl (fun h => by cases h) (fun _ _ _ _ _ h => h)) <| okY rfl (LT_move rfl rfl) <| okN rfl <| okN rfl <| okY rfl (LT_pick rfl rfl (fun h => by cases h) (fun _ _ _ _ _ h => h)) <| okY rfl (LT_move rfl rfl) <| okN rfl <| okN rfl <| okY rfl (LT_pick rfl rfl (fun h => by cases h) (fun _ _ _ _ _ h => h)) <| okY rfl (LT_assign rfl rfl) <| okE
  change AW _ _ _ _ _ _
  refine aw_weak (weak_of [(1, .ptr 1 0), (7, .d (.bool false))] [(1, some ⟨41, 6, [.d (.str g), .d (.int .i64 2), .d (.str (⟨#[]⟩)), .d (.sl 0 0 []), .d (.int .i64 0), .d (.sl 0 0 [])]⟩)] [1] (sE rfl (sE rfl sE0)) (sH rfl sH0) (by kernel_rfl)) ?_
  refine aw_seq ?_
  refine aw_seq ?_
  refine aw_region_seq [⟨.d (.bool false), [], [], []⟩, ⟨.d (.bool true), [], [], []⟩, ⟨.d (.bool true), [], [], []⟩, ⟨.tup [], [], [], []⟩, ⟨.tup [], [], [], []⟩, ⟨.tup [], [], [], []⟩, ⟨.tup [], [], [], []⟩, ⟨.d (.bool true), [], [], []⟩] (by kernel_rfl) (by kernel_rfl) (fun id _ => hG id) ?_ ?_
  · exact okY rfl (LT_move rfl rfl) <| okY rfl (LT_not rfl rfl rfl) <| okY rfl (LT_move rfl rfl) <| okN rfl <| okN rfl <| okN rfl <| okN rfl <| okY rfl (LT_pick rfl rfl (fun _ _ _ _ _ h => h) (fun h => by cases h)) <| okE
  change AW _ _ _ _ _ _
  refine aw_weak (weak_of [(95, .d (.bool true))] [] [] (sE rfl sE0) sH0 (by kernel_rfl)) ?_
  refine aw_condT rfl ?_
  refine aw_seq ?_
  refine aw_region_seq [⟨.d (.int .i64 150), [], [], []⟩] (by kernel_rfl) (by kernel_rfl) (fun id _ => hG id) ?_ ?_
  · exact okY rfl (LT_assign rfl rfl) <| okE
  change AW _ _ _ _ _ _
  refine aw_weak (weak_of [(2, .d (.int .i64 150))] [] [] (sE rfl sE0) sH0 (by kernel_rfl)) ?_
  refine aw_ret ?_
  refine fin1 (x := .d (.int .i64 150)) (.inl rfl) Tryz.results18 rfl ?_
  exact rfl

end Go.Proofs.YtaacgmcgmljjeaaGreat

/- tag.Bytes of a text and of numbers. -/
namespace Go.Proofs.YtaacgmcgmljjeaaGreat
open Go.RowKit

set_option maxRecDepth 100000 in
set_option maxHeartbeats 2000000 in
theorem bytesT (g : ByteArray) (hg0 : 0 < g.size) (hgs : g.size ≤ 100) (hgg : PC Tryz.prog 45 [.d (.str g)] (.d (.bool true))) (s : ByteArray) (hs0 : 0 < s.size) (hs : s.size ≤ 200) (hs' : s.size < 9223372036854775807) (hne : cmpS .neq s ⟨#[]⟩ = true) (hb : anyN (fun j => badC (octN s j)) s.size = false) : PC Tryz.prog 17 [.agg [.d (.str g), .d (.int .i64 1), .d (.str s), .d (.sl 0 0 []), .d (.int .i64 0), .d (.sl 0 0 [])]] (.tup [.d (.str (strD (((octs g ++ [(1 / 1) % 256]) ++ [(((s.size : Nat) : Int) / 256) % 256, (((s.size : Nat) : Int) / 1) % 256]) ++ octs s))), .d (.int .i64 0)]) := by
  refine PC_of (fn := Tryz.f17) Tryz.func17 rfl (by simp [Tryz.ntmps17]) (by kernel_rfl) fun G hG => ?_
  rw [Tryz.ntmps17]
  refine aw_seq ?_
  refine aw_region_seq [⟨.ptr 1 0, [(1, some ⟨41, 6, [.d (.str g), .d (.int .i64 1), .d (.str s), .d (.sl 0 0 []), .d (.int .i64 0), .d (.sl 0 0 [])]⟩)], [1], []⟩, ⟨.d (.str (⟨#[]⟩)), [], [], []⟩, ⟨.d (.int .i64 0), [], [], []⟩] (by kernel_rfl) (by kernel_rfl) (fun id _ => hG id) ?_ ?_
  · exact okY rfl (LT_box (x := .agg [.d (.str g), .d (.int .i64 1), .d (.str s), .d (.sl 0 0 []), .d (.int .i64 0), .d (.sl 0 0 [])]) 1 rfl rfl rfl 6 rfl (List.Mem.head _)) <| okY rfl (LT_assign rfl rfl) <| okY rfl (LT_assign rfl rfl) <| okE
  change AW _ _ _ _ _ _
  refine aw_weak (weak_of [(1, .ptr 1 0)] [(1, some ⟨41, 6, [.d (.str g), .d (.int .i64 1), .d (.str s), .d (.sl 0 0 []), .d (.int .i64 0), .d (.sl 0 0 [])]⟩)] [1] (sE rfl sE0) (sH rfl sH0) (by kernel_rfl)) ?_
  refine aw_seq ?_
  refine aw_seq ?_
  refine aw_region_seq [⟨.agg [.d (.str g), .d (.int .i64 1), .d (.str s), .d (.sl 0 0 []), .d (.int .i64 0), .d (.sl 0 0 [])], [], [], [1]⟩, ⟨.d (.int .i64 0), [], [], []⟩, ⟨.d (.int .i64 0), [], [], []⟩] (by kernel_rfl) (by kernel_rfl) (fun id _ => hG id) ?_ ?_
  · exact okY rfl (LT_load 6 rfl rfl rfl (List.Mem.head _) Tryz.underlying41 inf41 (by simp) (.inl ⟨rfl, rfl, rfl⟩)) <| okY rfl (LT_call [.agg [.d (.str g), .d (.int .i64 1), .d (.str s), .d (.sl 0 0 []), .d (.int .i64 0), .d (.sl 0 0 [])]] rfl rfl Tryz.call18 rfl ((check_text g hgg s hs hs' hne hb).ct rfl)) <| okY rfl (LT_assign rfl rfl) <| okE
  change AW _ _ _ _ _ _
  refine aw_weak (weak_of [(1, .ptr 1 0), (4, .d (.int .i64 0))] [(1, some ⟨41, 6, [.d (.str g), .d (.int .i64 1), .d (.str s), .d (.sl 0 0 []), .d (.int .i64 0), .d (.sl 0 0 [])]⟩)] [1] (sE rfl (sE rfl sE0)) (sH rfl sH0) (by kernel_rfl)) ?_
  refine aw_seq ?_
  refine aw_region_seq [⟨.d (.int .i64 0), [], [], []⟩, ⟨.d (.bool false), [], [], []⟩] (by kernel_rfl) (by kernel_rfl) (fun id _ => hG id) ?_ ?_
  · exact okY rfl (LT_move rfl rfl) <| okY rfl (LT_cmp rfl rfl rfl rfl rfl) <| okE
  change AW _ _ _ _ _ _
  refine aw_weak (weak_of [(1, .ptr 1 0), (4, .d (.int .i64 0)), (9, .d (.bool false))] [(1, some ⟨41, 6, [.d (.str g), .d (.int .i64 1), .d (.str s), .d (.sl 0 0 []), .d (.int .i64 0), .d (.sl 0 0 [])]⟩)] [1] (sE rfl (sE rfl (sE rfl sE0))) (sH rfl sH0) (by kernel_rfl)) ?_
  refine aw_condF rfl ?_
  refine aw_skip ?_
  change AW _ _ _ _ _ _
  refine aw_weak (weak_of [(1, .ptr 1 0)] [(1, some ⟨41, 6, [.d (.str g), .d (.int .i64 1), .d (.str s), .d (.sl 0 0 []), .d (.int .i64 0), .d (.sl 0 0 [])]⟩)] [1] (sE rfl sE0) (sH rfl sH0) (by kernel_rfl)) ?_
  refine aw_seq ?_
  refine aw_region_seq [⟨.agg [.d (.sl 0 0 [])], [], [], []⟩, ⟨.ptr 2 0, [(2, some ⟨102, 1, [.d (.sl 0 0 [])]⟩)], [2], []⟩, ⟨.ptr 2 0, [], [], []⟩] (by kernel_rfl) (by kernel_rfl) (fun id _ => hG id) ?_ ?_
  · exact okY rfl (LT_build (qs := []) (fun j => (#[(0, 1)] : Array (Nat × Nat))[j]?) rfl Tryz.underlying102 inf102 rfl rfl (.inl ⟨_, rfl, by kernel_rfl, by kernel_rfl⟩) rfl) <| okY rfl (LT_box (x := .agg [.d (.sl 0 0 [])]) 2 rfl rfl rfl 1 rfl (List.Mem.head _)) <| okY rfl (LT_assign rfl rfl) <| okE
  change AW _ _ _ _ _ _
  refine aw_weak (weak_of [(1, .ptr 1 0), (5, .ptr 2 0)] [(1, some ⟨41, 6, [.d (.str g), .d (.int .i64 1), .d (.str s), .d (.sl 0 0 []), .d (.int .i64 0), .d (.sl 0 0 [])]⟩), (2, some ⟨102, 1, [.d (.sl 0 0 [])]⟩)] [1, 2] (sE rfl (sE rfl sE0)) (sH rfl (sH rfl sH0)) (by kernel_rfl)) ?_
  refine aw_seq ?_
  refine aw_region_seq [⟨.ptr 2 0, [], [], []⟩, ⟨.agg [.d (.str g), .d (.int .i64 1), .d (.str s), .d (.sl 0 0 []), .d (.int .i64 0), .d (.sl 0 0 [])], [], [], [1]⟩, ⟨.tup [], [(2, some ⟨102, 1, [.own 3 (g.size + 1 + 2 + s.size) 1]⟩), (3, some ⟨5, 1, (u8D (((octs g ++ [(1 / 1) % 256]) ++ [(((s.size : Nat) : Int) / 256) % 256, (((s.size : Nat) : Int) / 1) % 256]) ++ octs s)).map X.d⟩)], [3], [2]⟩] (by kernel_rfl) (by kernel_rfl) (fun id _ => hG id) ?_ ?_
  · exact okY rfl (LT_move rfl rfl) <| okY rfl (LT_load 6 rfl rfl rfl (List.Mem.head _) Tryz.underlying41 inf41 (by simp) (.inl ⟨rfl, rfl, rfl⟩)) <| okY rfl (LT_call [.ptr 2 0, .agg [.d (.str g), .d (.int .i64 1), .d (.str s), .d (.sl 0 0 []), .d (.int .i64 0), .d (.sl 0 0 [])]] rfl rfl Tryz.call40 rfl (tagT' 2 3 (by decide) g hg0 hgs s hs0 hs rfl)) <| okE
  change AW _ _ _ _ _ _
  refine aw_weak (weak_of [(5, .ptr 2 0)] [(2, some ⟨102, 1, [.own 3 (g.size + 1 + 2 + s.size) 1]⟩), (3, some ⟨5, 1, (u8D (((octs g ++ [(1 / 1) % 256]) ++ [(((s.size : Nat) : Int) / 256) % 256, (((s.size : Nat) : Int) / 1) % 256]) ++ octs s)).map X.d⟩)] [2, 3] (sE rfl sE0) (sH rfl (sH rfl sH0)) (by simp only [Heap.ids, idsL_d, List.nil_append]; kernel_rfl)) ?_
  refine aw_seq ?_
  refine aw_seq ?_
  refine aw_region_seq [⟨.ptr 2 0, [], [], []⟩, ⟨.ptr 2 0, [], [], []⟩, ⟨.ptr 2 0, [], [], []⟩, ⟨.ptr 2 0, [], [], []⟩, ⟨.own 3 (g.size + 1 + 2 + s.size) 1, [], [], [2]⟩, ⟨.d (.int .i64 (((g.size + 1 + 2 + s.size) : Nat) : Int)), [], [], []⟩, ⟨.d (.bool (decide ((32768 : Int) < (((g.size + 1 + 2 + s.size) : Nat) : Int)))), [], [], []⟩] (by kernel_rfl) (by kernel_rfl) (fun id _ => hG id) ?_ ?_
  · exact okY rfl (LT_move rfl rfl) <| okY rfl (LT_nilCheck rfl rfl) <| okY rfl (LT_fieldAddr rfl rfl Tryz.underlying102 rfl inf100 (by decide) _ rfl) <| okY rfl (LT_fieldAddr rfl rfl Tryz.underlying100 rfl inf23 (by decide) _ rfl) <| okY rfl (LT_load 1 rfl rfl rfl (List.Mem.head _) Tryz.underlying23 inf23 (by simp) (.inr ⟨rfl, rfl, rfl⟩)) <| okY rfl (LT_lenO rfl Tryz.underlying23 rfl) <| okY rfl (LT_cmp rfl rfl rfl rfl rfl) <| okE
  change AW _ _ _ _ _ _
  refine aw_weak (weak_of [(5, .ptr 2 0), (22, .d (.bool (decide ((32768 : Int) < (((g.size + 1 + 2 + s.size) : Nat) : Int)))))] [(2, some ⟨102, 1, [.own 3 (g.size + 1 + 2 + s.size) 1]⟩), (3, some ⟨5, 1, (u8D (((octs g ++ [(1 / 1) % 256]) ++ [(((s.size : Nat) : Int) / 256) % 256, (((s.size : Nat) : Int) / 1) % 256]) ++ octs s)).map X.d⟩)] [2, 3] (sE rfl (sE rfl sE0)) (sH rfl (sH rfl sH0)) (by simp only [Heap.ids, idsL_d, List.nil_append]; kernel_rfl)) ?_
  refine aw_cond (decide ((32768 : Int) < (((g.size + 1 + 2 + s.size) : Nat) : Int))) rfl (fun hb1 => ?_) (fun hb1 => ?_)
  ·
    replace hb1 := of_decide_eq_true hb1
    exfalso; omega
  ·
    replace hb1 := of_decide_eq_false hb1
    refine aw_skip ?_
    change AW _ _ _ _ _ _
    refine aw_weak (weak_of [(5, .ptr 2 0)] [(2, some ⟨102, 1, [.own 3 (g.size + 1 + 2 + s.size) 1]⟩), (3, some ⟨5, 1, (u8D (((octs g ++ [(1 / 1) % 256]) ++ [(((s.size : Nat) : Int) / 256) % 256, (((s.size : Nat) : Int) / 1) % 256]) ++ octs s)).map X.d⟩)] [2, 3] (sE rfl sE0) (sH rfl (sH rfl sH0)) (by simp only [Heap.ids, idsL_d, List.nil_append]; kernel_rfl)) ?_
    refine aw_seq ?_
    refine aw_region_seq [⟨.ptr 2 0, [], [], []⟩, ⟨.ptr 2 0, [], [], []⟩, ⟨.ptr 2 0, [], [], []⟩, ⟨.ptr 2 0, [], [], []⟩, ⟨.own 3 (g.size + 1 + 2 + s.size) 1, [], [], [2]⟩, ⟨.d (.str (strD (((octs g ++ [(1 / 1) % 256]) ++ [(((s.size : Nat) : Int) / 256) % 256, (((s.size : Nat) : Int) / 1) % 256]) ++ octs s))), [], [], [3]⟩, ⟨.d (.str (strD (((octs g ++ [(1 / 1) % 256]) ++ [(((s.size : Nat) : Int) / 256) % 256, (((s.size : Nat) : Int) / 1) % 256]) ++ octs s))), [], [], []⟩, ⟨.d (.int .i64 0), [], [], []⟩] (by kernel_rfl) (by kernel_rfl) (fun id _ => hG id) ?_ ?_
    · exact okY rfl (LT_move rfl rfl) <| okY rfl (LT_nilCheck rfl rfl) <| okY rfl (LT_fieldAddr rfl rfl Tryz.underlying102 rfl inf100 (by decide) _ rfl) <| okY rfl (LT_fieldAddr rfl rfl Tryz.underlying100 rfl inf23 (by decide) _ rfl) <| okY rfl (LT_load 1 rfl rfl rfl (List.Mem.head _) Tryz.underlying23 inf23 (by simp) (.inr ⟨rfl, rfl, rfl⟩)) <| okY rfl (LT_strOfO (((octs g ++ [(1 / 1) % 256]) ++ [(((s.size : Nat) : Int) / 256) % 256, (((s.size : Nat) : Int) / 1) % 256]) ++ octs s) _ rfl Tryz.underlying23 Tryz.underlying9 Tryz.underlying5 rfl rfl (List.Mem.head _) rfl (by simp [octs_len]; omega) (by omega) rfl) <| okY rfl (LT_assign rfl rfl) <| okY rfl (LT_assign rfl rfl) <| okE
    change AW _ _ _ _ _ _
    refine aw_weak (weak_of [(2, .d (.str (strD (((octs g ++ [(1 / 1) % 256]) ++ [(((s.size : Nat) : Int) / 256) % 256, (((s.size : Nat) : Int) / 1) % 256]) ++ octs s)))), (3, .d (.int .i64 0))] [] [] (sE rfl (sE rfl sE0)) sH0 (by kernel_rfl)) ?_
    refine aw_ret ?_
    refine finN (xs := [.d (.str (strD (((octs g ++ [(1 / 1) % 256]) ++ [(((s.size : Nat) : Int) / 256) % 256, (((s.size : Nat) : Int) / 1) % 256]) ++ octs s))), .d (.int .i64 0)]) (l := [.tmp 2, .tmp 3]) (.inl rfl) Tryz.results17 (rL rfl (rL rfl (rL0))) (by simp) ?_
    exact rfl

set_option maxRecDepth 100000 in
set_option maxHeartbeats 2000000 in
theorem bytesN (g : ByteArray) (hg0 : 0 < g.size) (hgs : g.size ≤ 100) (hgg : PC Tryz.prog 45 [.d (.str g)] (.d (.bool true))) (l : List Int) (m : Nat) (hlm : l.length = m) (hl0 : 0 < m) (hl : m ≤ 12) (hb : anyN (fun j => bigI (l.getD j 0)) l.length = false) : PC Tryz.prog 17 [.agg [.d (.str g), .d (.int .i64 2), .d (.str (⟨#[]⟩)), .d (.sl m 1 (intsD l)), .d (.int .i64 0), .d (.sl 0 0 [])]] (.tup [.d (.str (strD ((octs g ++ [(2 / 1) % 256]) ++ [((m : Nat) : Int) / 1 % 256] ++ be4L l m))), .d (.int .i64 0)]) := by
  refine PC_of (fn := Tryz.f17) Tryz.func17 rfl (by simp [Tryz.ntmps17]) (by kernel_rfl) fun G hG => ?_
  rw [Tryz.ntmps17]
  have hck := check_nums g hgg l (by omega) (by omega) (by omega) hb
  rw [hlm] at hck
  refine aw_seq ?_
  refine aw_region_seq [⟨.ptr 1 0, [(1, some ⟨41, 6, [.d (.str g), .d (.int .i64 2), .d (.str (⟨#[]⟩)), .d (.sl m 1 (intsD l)), .d (.int .i64 0), .d (.sl 0 0 [])]⟩)], [1], []⟩, ⟨.d (.str (⟨#[]⟩)), [], [], []⟩, ⟨.d (.int .i64 0), [], [], []⟩] (by kernel_rfl) (by kernel_rfl) (fun id _ => hG id) ?_ ?_
  · exact okY rfl (LT_box (x := .agg [.d (.str g), .d (.int .i64 2), .d (.str (⟨#[]⟩)), .d (.sl m 1 (intsD l)), .d (.int .i64 0), .d (.sl 0 0 [])]) 1 rfl rfl rfl 6 rfl (List.Mem.head _)) <| okY rfl (LT_assign rfl rfl) <| okY rfl (LT_assign rfl rfl) <| okE
  change AW _ _ _ _ _ _
  refine aw_weak (weak_of [(1, .ptr 1 0)] [(1, some ⟨41, 6, [.d (.str g), .d (.int .i64 2), .d (.str (⟨#[]⟩)), .d (.sl m 1 (intsD l)), .d (.int .i64 0), .d (.sl 0 0 [])]⟩)] [1] (sE rfl sE0) (sH rfl sH0) (by kernel_rfl)) ?_
  refine aw_seq ?_
  refine aw_seq ?_
  refine aw_region_seq [⟨.agg [.d (.str g), .d (.int .i64 2), .d (.str (⟨#[]⟩)), .d (.sl m 1 (intsD l)), .d (.int .i64 0), .d (.sl 0 0 [])], [], [], [1]⟩, ⟨.d (.int .i64 0), [], [], []⟩, ⟨.d (.int .i64 0), [], [], []⟩] (by kernel_rfl) (by kernel_rfl) (fun id _ => hG id) ?_ ?_
  · exact okY rfl (LT_load 6 rfl rfl rfl (List.Mem.head _) Tryz.underlying41 inf41 (by simp) (.inl ⟨rfl, rfl, rfl⟩)) <| okY rfl (LT_call [.agg [.d (.str g), .d (.int .i64 2), .d (.str (⟨#[]⟩)), .d (.sl m 1 (intsD l)), .d (.int .i64 0), .d (.sl 0 0 [])]] rfl rfl Tryz.call18 rfl (hck.ct rfl)) <| okY rfl (LT_assign rfl rfl) <| okE
  change AW _ _ _ _ _ _
  refine aw_weak (weak_of [(1, .ptr 1 0), (4, .d (.int .i64 0))] [(1, some ⟨41, 6, [.d (.str g), .d (.int .i64 2), .d (.str (⟨#[]⟩)), .d (.sl m 1 (intsD l)), .d (.int .i64 0), .d (.sl 0 0 [])]⟩)] [1] (sE rfl (sE rfl sE0)) (sH rfl sH0) (by kernel_rfl)) ?_
  refine aw_seq ?_
  refine aw_region_seq [⟨.d (.int .i64 0), [], [], []⟩, ⟨.d (.bool false), [], [], []⟩] (by kernel_rfl) (by kernel_rfl) (fun id _ => hG id) ?_ ?_
  · exact okY rfl (LT_move rfl rfl) <| okY rfl (LT_cmp rfl rfl rfl rfl rfl) <| okE
  change AW _ _ _ _ _ _
  refine aw_weak (weak_of [(1, .ptr 1 0), (4, .d (.int .i64 0)), (9, .d (.bool false))] [(1, some ⟨41, 6, [.d (.str g), .d (.int .i64 2), .d (.str (⟨#[]⟩)), .d (.sl m 1 (intsD l)), .d (.int .i64 0), .d (.sl 0 0 [])]⟩)] [1] (sE rfl (sE rfl (sE rfl sE0))) (sH rfl sH0) (by kernel_rfl)) ?_
  refine aw_condF rfl ?_
  refine aw_skip ?_
  change AW _ _ _ _ _ _
  refine aw_weak (weak_of [(1, .ptr 1 0)] [(1, some ⟨41, 6, [.d (.str g), .d (.int .i64 2), .d (.str (⟨#[]⟩)), .d (.sl m 1 (intsD l)), .d (.int .i64 0), .d (.sl 0 0 [])]⟩)] [1] (sE rfl sE0) (sH rfl sH0) (by kernel_rfl)) ?_
  refine aw_seq ?_
  refine aw_region_seq [⟨.agg [.d (.sl 0 0 [])], [], [], []⟩, ⟨.ptr 2 0, [(2, some ⟨102, 1, [.d (.sl 0 0 [])]⟩)], [2], []⟩, ⟨.ptr 2 0, [], [], []⟩] (by kernel_rfl) (by kernel_rfl) (fun id _ => hG id) ?_ ?_
  · exact okY rfl (LT_build (qs := []) (fun j => (#[(0, 1)] : Array (Nat × Nat))[j]?) rfl Tryz.underlying102 inf102 rfl rfl (.inl ⟨_, rfl, by kernel_rfl, by kernel_rfl⟩) rfl) <| okY rfl (LT_box (x := .agg [.d (.sl 0 0 [])]) 2 rfl rfl rfl 1 rfl (List.Mem.head _)) <| okY rfl (LT_assign rfl rfl) <| okE
  change AW _ _ _ _ _ _
  refine aw_weak (weak_of [(1, .ptr 1 0), (5, .ptr 2 0)] [(1, some ⟨41, 6, [.d (.str g), .d (.int .i64 2), .d (.str (⟨#[]⟩)), .d (.sl m 1 (intsD l)), .d (.int .i64 0), .d (.sl 0 0 [])]⟩), (2, some ⟨102, 1, [.d (.sl 0 0 [])]⟩)] [1, 2] (sE rfl (sE rfl sE0)) (sH rfl (sH rfl sH0)) (by kernel_rfl)) ?_
  refine aw_seq ?_
  refine aw_region_seq [⟨.ptr 2 0, [], [], []⟩, ⟨.agg [.d (.str g), .d (.int .i64 2), .d (.str (⟨#[]⟩)), .d (.sl m 1 (intsD l)), .d (.int .i64 0), .d (.sl 0 0 [])], [], [], [1]⟩, ⟨.tup [], [(2, some ⟨102, 1, [.own 3 (g.size + 1 + 1 + 4 * m) 1]⟩), (3, some ⟨5, 1, (u8D ((octs g ++ [(2 / 1) % 256]) ++ [((m : Nat) : Int) / 1 % 256] ++ be4L l m)).map X.d⟩)], [3], [2]⟩] (by kernel_rfl) (by kernel_rfl) (fun id _ => hG id) ?_ ?_
  · exact okY rfl (LT_move rfl rfl) <| okY rfl (LT_load 6 rfl rfl rfl (List.Mem.head _) Tryz.underlying41 inf41 (by simp) (.inl ⟨rfl, rfl, rfl⟩)) <| okY rfl (LT_call [.ptr 2 0, .agg [.d (.str g), .d (.int .i64 2), .d (.str (⟨#[]⟩)), .d (.sl m 1 (intsD l)), .d (.int .i64 0), .d (.sl 0 0 [])]] rfl rfl Tryz.call40 rfl (tagN' 2 3 (by decide) g hg0 hgs l m hlm hl0 hl rfl)) <| okE
  change AW _ _ _ _ _ _
  refine aw_weak (weak_of [(5, .ptr 2 0)] [(2, some ⟨102, 1, [.own 3 (g.size + 1 + 1 + 4 * m) 1]⟩), (3, some ⟨5, 1, (u8D ((octs g ++ [(2 / 1) % 256]) ++ [((m : Nat) : Int) / 1 % 256] ++ be4L l m)).map X.d⟩)] [2, 3] (sE rfl sE0) (sH rfl (sH rfl sH0)) (by simp only [Heap.ids, idsL_d, List.nil_append]; kernel_rfl)) ?_
  refine aw_seq ?_
  refine aw_seq ?_
  refine aw_region_seq [⟨.ptr 2 0, [], [], []⟩, ⟨.ptr 2 0, [], [], []⟩, ⟨.ptr 2 0, [], [], []⟩, ⟨.ptr 2 0, [], [], []⟩, ⟨.own 3 (g.size + 1 + 1 + 4 * m) 1, [], [], [2]⟩, ⟨.d (.int .i64 (((g.size + 1 + 1 + 4 * m) : Nat) : Int)), [], [], []⟩, ⟨.d (.bool (decide ((32768 : Int) < (((g.size + 1 + 1 + 4 * m) : Nat) : Int)))), [], [], []⟩] (by kernel_rfl) (by kernel_rfl) (fun id _ => hG id) ?_ ?_
  · exact okY rfl (LT_move rfl rfl) <| okY rfl (LT_nilCheck rfl rfl) <| okY rfl (LT_fieldAddr rfl rfl Tryz.underlying102 rfl inf100 (by decide) _ rfl) <| okY rfl (LT_fieldAddr rfl rfl Tryz.underlying100 rfl inf23 (by decide) _ rfl) <| okY rfl (LT_load 1 rfl rfl rfl (List.Mem.head _) Tryz.underlying23 inf23 (by simp) (.inr ⟨rfl, rfl, rfl⟩)) <| okY rfl (LT_lenO rfl Tryz.underlying23 rfl) <| okY rfl (LT_cmp rfl rfl rfl rfl rfl) <| okE
  change AW _ _ _ _ _ _
  refine aw_weak (weak_of [(5, .ptr 2 0), (22, .d (.bool (decide ((32768 : Int) < (((g.size + 1 + 1 + 4 * m) : Nat) : Int)))))] [(2, some ⟨102, 1, [.own 3 (g.size + 1 + 1 + 4 * m) 1]⟩), (3, some ⟨5, 1, (u8D ((octs g ++ [(2 / 1) % 256]) ++ [((m : Nat) : Int) / 1 % 256] ++ be4L l m)).map X.d⟩)] [2, 3] (sE rfl (sE rfl sE0)) (sH rfl (sH rfl sH0)) (by simp only [Heap.ids, idsL_d, List.nil_append]; kernel_rfl)) ?_
  refine aw_cond (decide ((32768 : Int) < (((g.size + 1 + 1 + 4 * m) : Nat) : Int))) rfl (fun hb1 => ?_) (fun hb1 => ?_)
  ·
    replace hb1 := of_decide_eq_true hb1
    exfalso; omega
  ·
    replace hb1 := of_decide_eq_false hb1
    refine aw_skip ?_
    change AW _ _ _ _ _ _
    refine aw_weak (weak_of [(5, .ptr 2 0)] [(2, some ⟨102, 1, [.own 3 (g.size + 1 + 1 + 4 * m) 1]⟩), (3, some ⟨5, 1, (u8D ((octs g ++ [(2 / 1) % 256]) ++ [((m : Nat) : Int) / 1 % 256] ++ be4L l m)).map X.d⟩)] [2, 3] (sE rfl sE0) (sH rfl (sH rfl sH0)) (by simp only [Heap.ids, idsL_d, List.nil_append]; kernel_rfl)) ?_
    refine aw_seq ?_
    refine aw_region_seq [⟨.ptr 2 0, [], [], []⟩, ⟨.ptr 2 0, [], [], []⟩, ⟨.ptr 2 0, [], [], []⟩, ⟨.ptr 2 0, [], [], []⟩, ⟨.own 3 (g.size + 1 + 1 + 4 * m) 1, [], [], [2]⟩, ⟨.d (.str (strD ((octs g ++ [(2 / 1) % 256]) ++ [((m : Nat) : Int) / 1 % 256] ++ be4L l m))), [], [], [3]⟩, ⟨.d (.str (strD ((octs g ++ [(2 / 1) % 256]) ++ [((m : Nat) : Int) / 1 % 256] ++ be4L l m))), [], [], []⟩, ⟨.d (.int .i64 0), [], [], []⟩] (by kernel_rfl) (by kernel_rfl) (fun id _ => hG id) ?_ ?_
    · exact okY rfl (LT_move rfl rfl) <| okY rfl (LT_nilCheck rfl rfl) <| okY rfl (LT_fieldAddr rfl rfl Tryz.underlying102 rfl inf100 (by decide) _ rfl) <| okY rfl (LT_fieldAddr rfl rfl Tryz.underlying100 rfl inf23 (by decide) _ rfl) <| okY rfl (LT_load 1 rfl rfl rfl (List.Mem.head _) Tryz.underlying23 inf23 (by simp) (.inr ⟨rfl, rfl, rfl⟩)) <| okY rfl (LT_strOfO ((octs g ++ [(2 / 1) % 256]) ++ [((m : Nat) : Int) / 1 % 256] ++ be4L l m) _ rfl Tryz.underlying23 Tryz.underlying9 Tryz.underlying5 rfl rfl (List.Mem.head _) rfl (by simp [octs_len, be4L_len (show m ≤ l.length by omega)]; omega) (by omega) rfl) <| okY rfl (LT_assign rfl rfl) <| okY rfl (LT_assign rfl rfl) <| okE
    change AW _ _ _ _ _ _
    refine aw_weak (weak_of [(2, .d (.str (strD ((octs g ++ [(2 / 1) % 256]) ++ [((m : Nat) : Int) / 1 % 256] ++ be4L l m)))), (3, .d (.int .i64 0))] [] [] (sE rfl (sE rfl sE0)) sH0 (by kernel_rfl)) ?_
    refine aw_ret ?_
    refine finN (xs := [.d (.str (strD ((octs g ++ [(2 / 1) % 256]) ++ [((m : Nat) : Int) / 1 % 256] ++ be4L l m))), .d (.int .i64 0)]) (l := [.tmp 2, .tmp 3]) (.inl rfl) Tryz.results17 (rL rfl (rL rfl (rL0))) (by simp) ?_
    exact rfl

end Go.Proofs.YtaacgmcgmljjeaaGreat
