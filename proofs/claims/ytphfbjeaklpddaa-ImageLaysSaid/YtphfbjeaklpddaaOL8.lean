/-
  Joined texts: Layer 42, the reference: Draft.Some, deep. · Layer 42, the reference: Draft.Some, Draft.Image. · Layer 42, the statements' guard: wakes. · Layer 42: the contracts of images, in the calculus of states. · For the rows of laws: a call that answers true and has only made new memory meets the row'
-/
import Derived.Test.YtphfbjeaklpddaaOL7
import Derived.Test.YtphfbjeaklpddaaOL6
import Derived.Test.YtphfbjeaklpddaaOL2
import Derived.Test.YtphfbjeaklpddaaOL3
import Derived.Test.YtphfbjeaklpddaaRows
import Derived.ProofKit
import Derived.OpenShut
set_option linter.unusedSimpArgs false
set_option linter.unusedVariables false

/- Layer 42, the reference: Draft.Some, deep. -/
namespace Go.Proofs.Ytphfbjeaklpddaa
open Go.RowKit

attribute [local go_sem] Oper.semAt_some

set_option maxRecDepth 100000 in
set_option maxHeartbeats 8000000 in
theorem sometrue (D : Dr) (hD : D.ok) (hdeep : D.deep = true) (n : Int) (n1 : 1 ≤ n) (n4 : n ≤ 4) (a : Option Addr) (cap : Nat) (w : World) (hvs : U16s w a D.vs) :
    Calls Try.prog 30 #[D.v a cap, .int .i64 n] w fun e w' => e = .returned (D.some n).v ∧ Below w.heap.size w w' := by
  have hok := D.lay_ok hD n n1 n4
  have hmk : ∀ V, Calls Try.prog 18 #[.int .i64 (1 + D.w % 6), .int .i64 (1 + D.h % 6), .int .i64 n, .int .i64 16, .bool D.pl, .int .i64 (padOf D.p)] V fun e w' =>
      e = .returned (.tuple #[imgV (1 + D.w % 6) (1 + D.h % 6) n 16 D.pl (padOf D.p) (imF (D.lay n) fun _ _ _ => 0).O, .int .i64 0]) ∧ Below V.heap.size V w' := fun V => by
    have h := rmake_ok (D.lay n) V hok
    have e : octS (D.lay n).len.toNat (fun _ => 0) = (imF (D.lay n) fun _ _ _ => 0).O := by rw [← imF_zero]
    rw [e] at h
    have eB : (D.lay n).B = 16 := by show D.B = 16; unfold Dr.B; rw [hdeep]; rfl
    unfold Lay.img at h
    rw [eB] at h
    exact h
  obtain ⟨O0, hO0⟩ : ∃ O0, O0 = (imF (D.lay n) fun _ _ _ => 0).O := ⟨_, rfl⟩
  rw [← hO0] at hmk
  have HO0 := Lib.hid hO0
  have HMK := Lib.hid hmk
  have HD := Lib.hid hD
  have HOK := Lib.hid hok
  have HDEEP := Lib.hid hdeep
  have HVS := Lib.hid hvs
  have a1 := hD.w0; have a2 := hD.w1; have a3 := hD.h0; have a4 := hD.h1; have a5 := hD.p0; have a6 := hD.p1
  have hlen := hD.len
  unfold maxLen at hlen
  clear hO0 hmk hD hok hvs
  unfold Dr.v
  rw [hdeep]
  clear hdeep
  go_enter Try.func30, Try.ntmps30
  go_upto_region 5 with fail
  (with_reducible refine wp_gen ?_)
  intro W0 hW0
  have hdr : HasDr W0 w.heap.size ⟨D.w, D.h, D.c, D.p, true, D.pl, D.vs⟩ a cap := ⟨by rw [hW0]; go_simp, by rw [hW0]; go_simp, by rw [hW0]; go_simp, by rw [hW0]; go_simp, by rw [hW0]; go_simp, by rw [hW0]; go_simp, by rw [hW0]; go_simp, by rw [hW0]; go_simp, fun o => by rw [hW0]; go_simp⟩
  have hz : HasIm W0 (w.heap.size + 1) ⟨⟨0, 0, 0, 0, false, 0⟩, ⟨#[]⟩⟩ := ⟨by rw [hW0]; go_simp, by rw [hW0]; go_simp, by rw [hW0]; go_simp, by rw [hW0]; go_simp, by rw [hW0]; go_simp, by rw [hW0]; go_simp, by rw [hW0]; go_simp, by rw [hW0]; go_simp, fun o => by rw [hW0]; go_simp⟩
  have hB : Below w.heap.size w W0 := by
    rw [hW0]
    ((repeat (first | (with_reducible exact Below.refl _ _) | (with_reducible refine Below.setCell ?_ ?_ _) | (with_reducible refine Below.alloc ?_ ?_ _) | (with_reducible refine Below.drew ?_) | (with_reducible refine Below.trans ?_ (Below.mono (by assumption) ?_)))); all_goals ((try simp only [World.size_alloc, World.size_drew, World.size_setCell]); omega))
  have hsz : w.heap.size + 1 < W0.heap.size := by rw [hW0]; simp
  clear hW0
  go_cut [7, 8] from 17 to 40 (fun s7 _ wx => ∃ b7, s7 = .pointer (some ⟨b7, 0, none⟩) ∧ w.heap.size + 1 < b7 ∧ HasIm wx b7 ⟨⟨1 + D.w % 6, 1 + D.h % 6, n, 16, D.pl, padOf D.p⟩, O0⟩ ∧ HasDr wx w.heap.size ⟨D.w, D.h, D.c, D.p, true, D.pl, D.vs⟩ a cap ∧ HasIm wx (w.heap.size + 1) ⟨⟨0, 0, 0, 0, false, 0⟩, ⟨#[]⟩⟩ ∧ Below w.heap.size w wx)
  case first =>
    have q1 : 0 ≤ D.w % 6 ∧ D.w % 6 < 6 := by omega
    have q2 : 0 ≤ D.h % 6 ∧ D.h % 6 < 6 := by omega
    have q3 : 0 ≤ D.p % 4 ∧ D.p % 4 < 4 := by omega
    have t1 : D.w.tmod 6 = D.w % 6 := Int.tmod_eq_emod_of_nonneg a1
    have t2 : D.h.tmod 6 = D.h % 6 := Int.tmod_eq_emod_of_nonneg a3
    have t3 : D.p.tmod 4 = D.p % 4 := Int.tmod_eq_emod_of_nonneg a5
    have w1 : IntKind.i64.wrap (D.w % 6) = D.w % 6 := by rw [IntKind.wrap_i64]; omega
    have w2 : IntKind.i64.wrap (D.h % 6) = D.h % 6 := by rw [IntKind.wrap_i64]; omega
    have w3 : IntKind.i64.wrap (1 + D.w % 6) = 1 + D.w % 6 := by rw [IntKind.wrap_i64]; omega
    have w4 : IntKind.i64.wrap (1 + D.h % 6) = 1 + D.h % 6 := by rw [IntKind.wrap_i64]; omega
    refine wp_region_held_drew (S := fun V => HasDr V w.heap.size ⟨D.w, D.h, D.c, D.p, true, D.pl, D.vs⟩ a cap ∧ HasIm V (w.heap.size + 1) ⟨⟨0, 0, 0, 0, false, 0⟩, ⟨#[]⟩⟩ ∧ Below w.heap.size w V) (by kernel_rfl) ⟨hdr.below (Below.refl _ _).drew, hz.below (Below.refl _ _).drew, hB.drew⟩ (fun hHeld => ?_)
    refine wpAnyH_gen ?_
    intro U0 hU
    have hM0 : HasDr U0 w.heap.size ⟨D.w, D.h, D.c, D.p, true, D.pl, D.vs⟩ a cap := by rw [hU]; exact hHeld.1
    have hM1 : HasIm U0 (w.heap.size + 1) ⟨⟨0, 0, 0, 0, false, 0⟩, ⟨#[]⟩⟩ := by rw [hU]; exact hHeld.2.1
    have hKB : Below w.heap.size w U0 := by rw [hU]; exact hHeld.2.2
    replace hHeld : HasDr U0 w.heap.size ⟨D.w, D.h, D.c, D.p, true, D.pl, D.vs⟩ a cap ∧ HasIm U0 (w.heap.size + 1) ⟨⟨0, 0, 0, 0, false, 0⟩, ⟨#[]⟩⟩ ∧ Below w.heap.size w U0 := ⟨hM0, hM1, hKB⟩
    clear hU
    refine wpAnyH_take (i := 0) (v := .pointer (some ⟨w.heap.size, 0, none⟩)) rfl (by kernel_rfl) (by kernel_rfl) (by kernel_rfl) (fun _ _ _ h => h) (Or.inl ⟨by rfl, ?_⟩) hHeld ?_
    · rintro V ⟨⟨x0l, x00, x01, x02, x03, x04, x05, x06, x0z⟩, ⟨x1l, x10, x11, x12, x13, x14, x15, x16, x1z⟩, -⟩
      go_simp
    try simp only [Act.put, List.getElem_toArray, List.getElem_cons_succ, List.getElem_cons_zero, List.setIfInBounds_toArray, List.set_cons_zero, List.set_cons_succ]
    refine wpAnyH_take (i := 1) (v := .int .u8 D.w) rfl (by kernel_rfl) (by kernel_rfl) (by kernel_rfl) (fun _ _ _ h => h) (Or.inl ⟨by rfl, ?_⟩) hHeld ?_
    · rintro V ⟨⟨x0l, x00, x01, x02, x03, x04, x05, x06, x0z⟩, ⟨x1l, x10, x11, x12, x13, x14, x15, x16, x1z⟩, -⟩
      go_simp
    try simp only [Act.put, List.getElem_toArray, List.getElem_cons_succ, List.getElem_cons_zero, List.setIfInBounds_toArray, List.set_cons_zero, List.set_cons_succ]
    refine wpAnyH_take (i := 2) (v := .int .u8 (D.w % 6)) rfl (by kernel_rfl) (by kernel_rfl) (by kernel_rfl) (fun _ _ _ h => h) (Or.inl ⟨by rfl, ?_⟩) hHeld ?_
    · rintro V ⟨⟨x0l, x00, x01, x02, x03, x04, x05, x06, x0z⟩, ⟨x1l, x10, x11, x12, x13, x14, x15, x16, x1z⟩, -⟩
      go_simp
    try simp only [Act.put, List.getElem_toArray, List.getElem_cons_succ, List.getElem_cons_zero, List.setIfInBounds_toArray, List.set_cons_zero, List.set_cons_succ]
    refine wpAnyH_take (i := 3) (v := .int .i64 (D.w % 6)) rfl (by kernel_rfl) (by kernel_rfl) (by kernel_rfl) (fun _ _ _ h => h) (Or.inl ⟨by rfl, ?_⟩) hHeld ?_
    · rintro V ⟨⟨x0l, x00, x01, x02, x03, x04, x05, x06, x0z⟩, ⟨x1l, x10, x11, x12, x13, x14, x15, x16, x1z⟩, -⟩
      go_simp
    try simp only [Act.put, List.getElem_toArray, List.getElem_cons_succ, List.getElem_cons_zero, List.setIfInBounds_toArray, List.set_cons_zero, List.set_cons_succ]
    refine wpAnyH_take (i := 4) (v := .int .i64 (1 + D.w % 6)) rfl (by kernel_rfl) (by kernel_rfl) (by kernel_rfl) (fun _ _ _ h => h) (Or.inl ⟨by rfl, ?_⟩) hHeld ?_
    · rintro V ⟨⟨x0l, x00, x01, x02, x03, x04, x05, x06, x0z⟩, ⟨x1l, x10, x11, x12, x13, x14, x15, x16, x1z⟩, -⟩
      go_simp
    try simp only [Act.put, List.getElem_toArray, List.getElem_cons_succ, List.getElem_cons_zero, List.setIfInBounds_toArray, List.set_cons_zero, List.set_cons_succ]
    refine wpAnyH_take (i := 5) (v := .pointer (some ⟨w.heap.size, 1, none⟩)) rfl (by kernel_rfl) (by kernel_rfl) (by kernel_rfl) (fun _ _ _ h => h) (Or.inl ⟨by rfl, ?_⟩) hHeld ?_
    · rintro V ⟨⟨x0l, x00, x01, x02, x03, x04, x05, x06, x0z⟩, ⟨x1l, x10, x11, x12, x13, x14, x15, x16, x1z⟩, -⟩
      go_simp
    try simp only [Act.put, List.getElem_toArray, List.getElem_cons_succ, List.getElem_cons_zero, List.setIfInBounds_toArray, List.set_cons_zero, List.set_cons_succ]
    refine wpAnyH_take (i := 6) (v := .int .u8 D.h) rfl (by kernel_rfl) (by kernel_rfl) (by kernel_rfl) (fun _ _ _ h => h) (Or.inl ⟨by rfl, ?_⟩) hHeld ?_
    · rintro V ⟨⟨x0l, x00, x01, x02, x03, x04, x05, x06, x0z⟩, ⟨x1l, x10, x11, x12, x13, x14, x15, x16, x1z⟩, -⟩
      go_simp
    try simp only [Act.put, List.getElem_toArray, List.getElem_cons_succ, List.getElem_cons_zero, List.setIfInBounds_toArray, List.set_cons_zero, List.set_cons_succ]
    refine wpAnyH_take (i := 7) (v := .int .u8 (D.h % 6)) rfl (by kernel_rfl) (by kernel_rfl) (by kernel_rfl) (fun _ _ _ h => h) (Or.inl ⟨by rfl, ?_⟩) hHeld ?_
    · rintro V ⟨⟨x0l, x00, x01, x02, x03, x04, x05, x06, x0z⟩, ⟨x1l, x10, x11, x12, x13, x14, x15, x16, x1z⟩, -⟩
      go_simp
    try simp only [Act.put, List.getElem_toArray, List.getElem_cons_succ, List.getElem_cons_zero, List.setIfInBounds_toArray, List.set_cons_zero, List.set_cons_succ]
    refine wpAnyH_take (i := 8) (v := .int .i64 (D.h % 6)) rfl (by kernel_rfl) (by kernel_rfl) (by kernel_rfl) (fun _ _ _ h => h) (Or.inl ⟨by rfl, ?_⟩) hHeld ?_
    · rintro V ⟨⟨x0l, x00, x01, x02, x03, x04, x05, x06, x0z⟩, ⟨x1l, x10, x11, x12, x13, x14, x15, x16, x1z⟩, -⟩
      go_simp
    try simp only [Act.put, List.getElem_toArray, List.getElem_cons_succ, List.getElem_cons_zero, List.setIfInBounds_toArray, List.set_cons_zero, List.set_cons_succ]
    refine wpAnyH_take (i := 9) (v := .int .i64 (1 + D.h % 6)) rfl (by kernel_rfl) (by kernel_rfl) (by kernel_rfl) (fun _ _ _ h => h) (Or.inl ⟨by rfl, ?_⟩) hHeld ?_
    · rintro V ⟨⟨x0l, x00, x01, x02, x03, x04, x05, x06, x0z⟩, ⟨x1l, x10, x11, x12, x13, x14, x15, x16, x1z⟩, -⟩
      go_simp
    try simp only [Act.put, List.getElem_toArray, List.getElem_cons_succ, List.getElem_cons_zero, List.setIfInBounds_toArray, List.set_cons_zero, List.set_cons_succ]
    refine wpAnyH_take (i := 10) (v := .int .i64 n) rfl (by kernel_rfl) (by kernel_rfl) (by kernel_rfl) (fun _ _ _ h => h) (Or.inl ⟨by rfl, ?_⟩) hHeld ?_
    · rintro V ⟨⟨x0l, x00, x01, x02, x03, x04, x05, x06, x0z⟩, ⟨x1l, x10, x11, x12, x13, x14, x15, x16, x1z⟩, -⟩
      go_simp
    try simp only [Act.put, List.getElem_toArray, List.getElem_cons_succ, List.getElem_cons_zero, List.setIfInBounds_toArray, List.set_cons_zero, List.set_cons_succ]
    refine wpAnyH_take (i := 11) (v := .int .i64 16) rfl (by kernel_rfl) (by kernel_rfl) (by kernel_rfl) (fun _ _ _ h => h) (Or.inl ⟨by rfl, ?_⟩) hHeld ?_
    · rintro V ⟨⟨x0l, x00, x01, x02, x03, x04, x05, x06, x0z⟩, ⟨x1l, x10, x11, x12, x13, x14, x15, x16, x1z⟩, -⟩
      go_simp
    try simp only [Act.put, List.getElem_toArray, List.getElem_cons_succ, List.getElem_cons_zero, List.setIfInBounds_toArray, List.set_cons_zero, List.set_cons_succ]
    refine wpAnyH_take (i := 12) (v := .pointer (some ⟨w.heap.size, 5, none⟩)) rfl (by kernel_rfl) (by kernel_rfl) (by kernel_rfl) (fun _ _ _ h => h) (Or.inl ⟨by rfl, ?_⟩) hHeld ?_
    · rintro V ⟨⟨x0l, x00, x01, x02, x03, x04, x05, x06, x0z⟩, ⟨x1l, x10, x11, x12, x13, x14, x15, x16, x1z⟩, -⟩
      go_simp
    try simp only [Act.put, List.getElem_toArray, List.getElem_cons_succ, List.getElem_cons_zero, List.setIfInBounds_toArray, List.set_cons_zero, List.set_cons_succ]
    refine wpAnyH_take (i := 13) (v := .bool D.pl) rfl (by kernel_rfl) (by kernel_rfl) (by kernel_rfl) (fun _ _ _ h => h) (Or.inl ⟨by rfl, ?_⟩) hHeld ?_
    · rintro V ⟨⟨x0l, x00, x01, x02, x03, x04, x05, x06, x0z⟩, ⟨x1l, x10, x11, x12, x13, x14, x15, x16, x1z⟩, -⟩
      go_simp
    try simp only [Act.put, List.getElem_toArray, List.getElem_cons_succ, List.getElem_cons_zero, List.setIfInBounds_toArray, List.set_cons_zero, List.set_cons_succ]
    refine wpAnyH_take (i := 15) (v := .pointer (some ⟨w.heap.size, 3, none⟩)) rfl (by kernel_rfl) (by kernel_rfl) (by kernel_rfl) (fun _ _ _ h => h) (Or.inl ⟨by rfl, ?_⟩) hHeld ?_
    · rintro V ⟨⟨x0l, x00, x01, x02, x03, x04, x05, x06, x0z⟩, ⟨x1l, x10, x11, x12, x13, x14, x15, x16, x1z⟩, -⟩
      go_simp
    try simp only [Act.put, List.getElem_toArray, List.getElem_cons_succ, List.getElem_cons_zero, List.setIfInBounds_toArray, List.set_cons_zero, List.set_cons_succ]
    refine wpAnyH_take (i := 16) (v := .int .u8 D.p) rfl (by kernel_rfl) (by kernel_rfl) (by kernel_rfl) (fun _ _ _ h => h) (Or.inl ⟨by rfl, ?_⟩) hHeld ?_
    · rintro V ⟨⟨x0l, x00, x01, x02, x03, x04, x05, x06, x0z⟩, ⟨x1l, x10, x11, x12, x13, x14, x15, x16, x1z⟩, -⟩
      go_simp
    try simp only [Act.put, List.getElem_toArray, List.getElem_cons_succ, List.getElem_cons_zero, List.setIfInBounds_toArray, List.set_cons_zero, List.set_cons_succ]
    refine wpAnyH_take (i := 17) (v := .int .u8 (D.p % 4)) rfl (by kernel_rfl) (by kernel_rfl) (by kernel_rfl) (fun _ _ _ h => h) (Or.inl ⟨by rfl, ?_⟩) hHeld ?_
    · rintro V ⟨⟨x0l, x00, x01, x02, x03, x04, x05, x06, x0z⟩, ⟨x1l, x10, x11, x12, x13, x14, x15, x16, x1z⟩, -⟩
      go_simp
    try simp only [Act.put, List.getElem_toArray, List.getElem_cons_succ, List.getElem_cons_zero, List.setIfInBounds_toArray, List.set_cons_zero, List.set_cons_succ]
    refine wpAnyH_ready (rs := [14, 24]) (by kernel_rfl) (by simp) ?_
    refine AllReadyH.cons rfl (fun K hK => ?_) ?_
    · go_simp
      refine hK.out _ _ ⟨hHeld.1.below ((Below.refl _ _).alloc (Nat.le_refl _) _), hHeld.2.1.below ((Below.refl _ _).alloc (Nat.le_refl _) _), hHeld.2.2.alloc hHeld.2.2.size _⟩ (fun hHeld => ?_)
      clear hK
      have hXL : Ints (U0.alloc (.cells #[.int .i64 1, .int .i64 2, .int .i64 4, .int .i64 8] 3)) (some ⟨U0.heap.size, 0, none⟩) [1, 2, 4, 8] := fun _ => ⟨_, _, rfl, fun i hi => by
        have : i = 0 ∨ i = 1 ∨ i = 2 ∨ i = 3 := by simp at hi; omega
        rcases this with rfl | rfl | rfl | rfl <;> go_simp⟩
      refine wpAnyH_gen ?_
      intro U1 hU
      have hM0 : HasDr U1 w.heap.size ⟨D.w, D.h, D.c, D.p, true, D.pl, D.vs⟩ a cap := by rw [hU]; exact hHeld.1
      have hM1 : HasIm U1 (w.heap.size + 1) ⟨⟨0, 0, 0, 0, false, 0⟩, ⟨#[]⟩⟩ := by rw [hU]; exact hHeld.2.1
      have hKB : Below w.heap.size w U1 := by rw [hU]; exact hHeld.2.2
      have hXL : Ints U1 (some ⟨U0.heap.size, 0, none⟩) [1, 2, 4, 8] := by rw [hU]; exact hXL
      replace hHeld : HasDr U1 w.heap.size ⟨D.w, D.h, D.c, D.p, true, D.pl, D.vs⟩ a cap ∧ HasIm U1 (w.heap.size + 1) ⟨⟨0, 0, 0, 0, false, 0⟩, ⟨#[]⟩⟩ ∧ Below w.heap.size w U1 := ⟨hM0, hM1, hKB⟩
      clear hU
      refine wpAnyH_ready (rs := [18, 24]) (by kernel_rfl) (by simp) ?_
      refine AllReadyH.cons rfl (fun K hK => ?_) ?_
      · go_simp
        refine hK.out _ _ hHeld (fun hHeld => ?_)
        clear hK
        refine wpAnyH_ready (rs := [19, 24]) (by kernel_rfl) (by simp) ?_
        refine AllReadyH.cons rfl (fun K hK => ?_) ?_
        · obtain ⟨lb, lo, lx, le, lc, lX⟩ := hXL.at (k := (D.p % 4).toNat) (by simp; omega)
          cases le
          have lX' := lX.out
          have lpad := padOf_at D.p a5
          rw [lX', Option.getD_some] at lpad
          rw [lpad, Nat.zero_add] at lc
          clear lX lX' lpad
          go_simp
          refine hK.out _ _ hHeld (fun hHeld => ?_)
          clear hK
          refine wpAnyH_ready (rs := [20, 24]) (by kernel_rfl) (by simp) ?_
          refine AllReadyH.cons rfl (fun K hK => ?_) ?_
          · go_simp
            (with_reducible refine calls_gen ?_)
            intro U2 hU
            have hM0 : HasDr U2 w.heap.size ⟨D.w, D.h, D.c, D.p, true, D.pl, D.vs⟩ a cap := by rw [hU]; exact hHeld.1
            have hM1 : HasIm U2 (w.heap.size + 1) ⟨⟨0, 0, 0, 0, false, 0⟩, ⟨#[]⟩⟩ := by rw [hU]; exact hHeld.2.1
            have hKB : Below w.heap.size w U2 := by rw [hU]; exact hHeld.2.2
            have hXL : Ints U2 (some ⟨U0.heap.size, 0, none⟩) [1, 2, 4, 8] := by rw [hU]; exact hXL
            (with_reducible refine (HMK.out U2).mono ?_)
            rintro e N2 ⟨rfl, hb⟩
            replace hXL := hXL.below hb
            refine hK.out _ _ ⟨hM0.below hb, hM1.below hb, hKB.trans (hb.mono hKB.size)⟩ (fun hHeld => ?_)
            clear hK
            refine wpAnyH_take (i := 21) (v := .tuple #[imgV (1 + D.w % 6) (1 + D.h % 6) n 16 D.pl (padOf D.p) O0, .int .i64 0]) rfl (by kernel_rfl) (by kernel_rfl) (by kernel_rfl) (fun _ _ _ h => h) (Or.inl ⟨by rfl, ?_⟩) hHeld ?_
            · rintro V ⟨⟨x0l, x00, x01, x02, x03, x04, x05, x06, x0z⟩, ⟨x1l, x10, x11, x12, x13, x14, x15, x16, x1z⟩, -⟩
              go_simp
            try simp only [Act.put, List.getElem_toArray, List.getElem_cons_succ, List.getElem_cons_zero, List.setIfInBounds_toArray, List.set_cons_zero, List.set_cons_succ]
            refine wpAnyH_take (i := 22) (v := imgV (1 + D.w % 6) (1 + D.h % 6) n 16 D.pl (padOf D.p) O0) rfl (by kernel_rfl) (by kernel_rfl) (by kernel_rfl) (fun _ _ _ h => h) (Or.inl ⟨by rfl, ?_⟩) hHeld ?_
            · rintro V ⟨⟨x0l, x00, x01, x02, x03, x04, x05, x06, x0z⟩, ⟨x1l, x10, x11, x12, x13, x14, x15, x16, x1z⟩, -⟩
              go_simp
            try simp only [Act.put, List.getElem_toArray, List.getElem_cons_succ, List.getElem_cons_zero, List.setIfInBounds_toArray, List.set_cons_zero, List.set_cons_succ]
            refine wpAnyH_take (i := 23) (v := .int .i64 0) rfl (by kernel_rfl) (by kernel_rfl) (by kernel_rfl) (fun _ _ _ h => h) (Or.inl ⟨by rfl, ?_⟩) hHeld ?_
            · rintro V ⟨⟨x0l, x00, x01, x02, x03, x04, x05, x06, x0z⟩, ⟨x1l, x10, x11, x12, x13, x14, x15, x16, x1z⟩, -⟩
              go_simp
            try simp only [Act.put, List.getElem_toArray, List.getElem_cons_succ, List.getElem_cons_zero, List.setIfInBounds_toArray, List.set_cons_zero, List.set_cons_succ]
            refine wpAnyH_ready (rs := [24]) (by kernel_rfl) (by simp) ?_
            refine AllReadyH.cons rfl (fun K hK => ?_) AllReadyH.nil
            go_simp
            have hgtT0 : w.heap.size < N2.heap.size := hHeld.1.lt
            have hneT0 : w.heap.size ≠ N2.heap.size := Nat.ne_of_lt hHeld.1.lt
            have hgtT1 : (w.heap.size + 1) < N2.heap.size := hHeld.2.1.lt
            have hneT1 : (w.heap.size + 1) ≠ N2.heap.size := Nat.ne_of_lt hHeld.2.1.lt
            have hleT : w.heap.size ≤ N2.heap.size := hHeld.2.2.size
            replace hXL := hXL.below ((Below.refl N2.heap.size N2).alloc (Nat.le_refl _) (.cells #[.int .i64 0, .int .i64 0, .int .i64 0, .int .i64 0, .bool false, .int .i64 0, .string ⟨#[]⟩] 31))
            refine hK.out _ _ ⟨hHeld.1.below ((Below.refl _ _).alloc (Nat.le_refl _) _), hHeld.2.1.below ((Below.refl _ _).alloc (Nat.le_refl _) _), hHeld.2.2.alloc hHeld.2.2.size _⟩ (fun hHeld => ?_)
            clear hK
            have hXT : HasIm (N2.alloc (.cells #[.int .i64 0, .int .i64 0, .int .i64 0, .int .i64 0, .bool false, .int .i64 0, .string ⟨#[]⟩] 31)) N2.heap.size ⟨⟨0, 0, 0, 0, false, 0⟩, ⟨#[]⟩⟩ := ⟨by go_simp, by go_simp, by go_simp, by go_simp, by go_simp, by go_simp, by go_simp, by go_simp, fun o => by go_simp⟩
            refine wpAnyH_gen ?_
            intro U3 hU
            have hM0 : HasDr U3 w.heap.size ⟨D.w, D.h, D.c, D.p, true, D.pl, D.vs⟩ a cap := by rw [hU]; exact hHeld.1
            have hM1 : HasIm U3 (w.heap.size + 1) ⟨⟨0, 0, 0, 0, false, 0⟩, ⟨#[]⟩⟩ := by rw [hU]; exact hHeld.2.1
            have hKB : Below w.heap.size w U3 := by rw [hU]; exact hHeld.2.2
            have hXL : Ints U3 (some ⟨U0.heap.size, 0, none⟩) [1, 2, 4, 8] := by rw [hU]; exact hXL
            have hXT : HasIm U3 N2.heap.size ⟨⟨0, 0, 0, 0, false, 0⟩, ⟨#[]⟩⟩ := by rw [hU]; exact hXT
            replace hHeld : HasDr U3 w.heap.size ⟨D.w, D.h, D.c, D.p, true, D.pl, D.vs⟩ a cap ∧ HasIm U3 (w.heap.size + 1) ⟨⟨0, 0, 0, 0, false, 0⟩, ⟨#[]⟩⟩ ∧ Below w.heap.size w U3 := ⟨hM0, hM1, hKB⟩
            clear hU
            refine wpAnyH_ready (rs := [25]) (by kernel_rfl) (by simp) ?_
            refine AllReadyH.cons rfl (fun K hK => ?_) AllReadyH.nil
            obtain ⟨oXl, oX0, oX1, oX2, oX3, oX4, oX5, oX6, oXz⟩ := hXT
            try dsimp only at oX0 oX1 oX2 oX3 oX4 oX5 oX6
            go_simp
            refine hK.out _ _ ⟨(((((((hHeld.1.set_other hneT0 _).set_other hneT0 _).set_other hneT0 _).set_other hneT0 _).set_other hneT0 _).set_other hneT0 _).set_other hneT0 _), (((((((hHeld.2.1.set_other hneT1 _).set_other hneT1 _).set_other hneT1 _).set_other hneT1 _).set_other hneT1 _).set_other hneT1 _).set_other hneT1 _), (((((((hHeld.2.2.setCell hleT _).setCell hleT _).setCell hleT _).setCell hleT _).setCell hleT _).setCell hleT _).setCell hleT _)⟩ (fun hHeld => ?_)
            clear hK
            refine wpAnyH_gen ?_
            intro U4 hU
            have hXT : HasIm U4 N2.heap.size ⟨⟨1 + D.w % 6, 1 + D.h % 6, n, 16, D.pl, padOf D.p⟩, O0⟩ := ⟨by rw [hU]; go_simp, by rw [hU]; go_simp, by rw [hU]; go_simp, by rw [hU]; go_simp, by rw [hU]; go_simp, by rw [hU]; go_simp, by rw [hU]; go_simp, by rw [hU]; go_simp, fun o => by rw [hU]; go_simp⟩
            have hM0 : HasDr U4 w.heap.size ⟨D.w, D.h, D.c, D.p, true, D.pl, D.vs⟩ a cap := by rw [hU]; exact hHeld.1
            have hM1 : HasIm U4 (w.heap.size + 1) ⟨⟨0, 0, 0, 0, false, 0⟩, ⟨#[]⟩⟩ := by rw [hU]; exact hHeld.2.1
            have hKB : Below w.heap.size w U4 := by rw [hU]; exact hHeld.2.2
            replace hHeld : HasDr U4 w.heap.size ⟨D.w, D.h, D.c, D.p, true, D.pl, D.vs⟩ a cap ∧ HasIm U4 (w.heap.size + 1) ⟨⟨0, 0, 0, 0, false, 0⟩, ⟨#[]⟩⟩ ∧ Below w.heap.size w U4 := ⟨hM0, hM1, hKB⟩
            clear hU
            refine wpAnyH_take (i := 26) (v := .int .i64 0) rfl (by kernel_rfl) (by kernel_rfl) (by kernel_rfl) (fun _ _ _ h => h) (Or.inl ⟨by rfl, ?_⟩) hHeld ?_
            · rintro V ⟨⟨x0l, x00, x01, x02, x03, x04, x05, x06, x0z⟩, ⟨x1l, x10, x11, x12, x13, x14, x15, x16, x1z⟩, -⟩
              go_simp
            try simp only [Act.put, List.getElem_toArray, List.getElem_cons_succ, List.getElem_cons_zero, List.setIfInBounds_toArray, List.set_cons_zero, List.set_cons_succ]
            refine wpAnyH_done (by kernel_rfl) ?_ _
            try simp only [Act.put, List.getElem_toArray, List.getElem_cons_succ, List.getElem_cons_zero, List.setIfInBounds_toArray, List.set_cons_zero, List.set_cons_succ]
            go_wp2_with fail
            go_meet
            exact ⟨N2.heap.size, rfl, hgtT1, hXT, hHeld.1, hHeld.2.1, hHeld.2.2⟩
          refine AllReadyH.cons rfl (fun K hK => ?_) AllReadyH.nil
          go_simp
          have hgtT0 : w.heap.size < U1.heap.size := hHeld.1.lt
          have hneT0 : w.heap.size ≠ U1.heap.size := Nat.ne_of_lt hHeld.1.lt
          have hgtT1 : (w.heap.size + 1) < U1.heap.size := hHeld.2.1.lt
          have hneT1 : (w.heap.size + 1) ≠ U1.heap.size := Nat.ne_of_lt hHeld.2.1.lt
          have hleT : w.heap.size ≤ U1.heap.size := hHeld.2.2.size
          replace hXL := hXL.below ((Below.refl U1.heap.size U1).alloc (Nat.le_refl _) (.cells #[.int .i64 0, .int .i64 0, .int .i64 0, .int .i64 0, .bool false, .int .i64 0, .string ⟨#[]⟩] 31))
          refine hK.out _ _ ⟨hHeld.1.below ((Below.refl _ _).alloc (Nat.le_refl _) _), hHeld.2.1.below ((Below.refl _ _).alloc (Nat.le_refl _) _), hHeld.2.2.alloc hHeld.2.2.size _⟩ (fun hHeld => ?_)
          clear hK
          have hXT : HasIm (U1.alloc (.cells #[.int .i64 0, .int .i64 0, .int .i64 0, .int .i64 0, .bool false, .int .i64 0, .string ⟨#[]⟩] 31)) U1.heap.size ⟨⟨0, 0, 0, 0, false, 0⟩, ⟨#[]⟩⟩ := ⟨by go_simp, by go_simp, by go_simp, by go_simp, by go_simp, by go_simp, by go_simp, by go_simp, fun o => by go_simp⟩
          refine wpAnyH_gen ?_
          intro U5 hU
          have hM0 : HasDr U5 w.heap.size ⟨D.w, D.h, D.c, D.p, true, D.pl, D.vs⟩ a cap := by rw [hU]; exact hHeld.1
          have hM1 : HasIm U5 (w.heap.size + 1) ⟨⟨0, 0, 0, 0, false, 0⟩, ⟨#[]⟩⟩ := by rw [hU]; exact hHeld.2.1
          have hKB : Below w.heap.size w U5 := by rw [hU]; exact hHeld.2.2
          have hXL : Ints U5 (some ⟨U0.heap.size, 0, none⟩) [1, 2, 4, 8] := by rw [hU]; exact hXL
          have hXT : HasIm U5 U1.heap.size ⟨⟨0, 0, 0, 0, false, 0⟩, ⟨#[]⟩⟩ := by rw [hU]; exact hXT
          replace hHeld : HasDr U5 w.heap.size ⟨D.w, D.h, D.c, D.p, true, D.pl, D.vs⟩ a cap ∧ HasIm U5 (w.heap.size + 1) ⟨⟨0, 0, 0, 0, false, 0⟩, ⟨#[]⟩⟩ ∧ Below w.heap.size w U5 := ⟨hM0, hM1, hKB⟩
          clear hU
          refine wpAnyH_ready (rs := [20]) (by kernel_rfl) (by simp) ?_
          refine AllReadyH.cons rfl (fun K hK => ?_) AllReadyH.nil
          go_simp
          (with_reducible refine calls_gen ?_)
          intro U6 hU
          have hM0 : HasDr U6 w.heap.size ⟨D.w, D.h, D.c, D.p, true, D.pl, D.vs⟩ a cap := by rw [hU]; exact hHeld.1
          have hM1 : HasIm U6 (w.heap.size + 1) ⟨⟨0, 0, 0, 0, false, 0⟩, ⟨#[]⟩⟩ := by rw [hU]; exact hHeld.2.1
          have hKB : Below w.heap.size w U6 := by rw [hU]; exact hHeld.2.2
          have hXL : Ints U6 (some ⟨U0.heap.size, 0, none⟩) [1, 2, 4, 8] := by rw [hU]; exact hXL
          have hXT : HasIm U6 U1.heap.size ⟨⟨0, 0, 0, 0, false, 0⟩, ⟨#[]⟩⟩ := by rw [hU]; exact hXT
          (with_reducible refine (HMK.out U6).mono ?_)
          rintro e N6 ⟨rfl, hb⟩
          replace hXL := hXL.below hb
          replace hXT := hXT.below hb
          refine hK.out _ _ ⟨hM0.below hb, hM1.below hb, hKB.trans (hb.mono hKB.size)⟩ (fun hHeld => ?_)
          clear hK
          refine wpAnyH_take (i := 21) (v := .tuple #[imgV (1 + D.w % 6) (1 + D.h % 6) n 16 D.pl (padOf D.p) O0, .int .i64 0]) rfl (by kernel_rfl) (by kernel_rfl) (by kernel_rfl) (fun _ _ _ h => h) (Or.inl ⟨by rfl, ?_⟩) hHeld ?_
          · rintro V ⟨⟨x0l, x00, x01, x02, x03, x04, x05, x06, x0z⟩, ⟨x1l, x10, x11, x12, x13, x14, x15, x16, x1z⟩, -⟩
            go_simp
          try simp only [Act.put, List.getElem_toArray, List.getElem_cons_succ, List.getElem_cons_zero, List.setIfInBounds_toArray, List.set_cons_zero, List.set_cons_succ]
          refine wpAnyH_take (i := 22) (v := imgV (1 + D.w % 6) (1 + D.h % 6) n 16 D.pl (padOf D.p) O0) rfl (by kernel_rfl) (by kernel_rfl) (by kernel_rfl) (fun _ _ _ h => h) (Or.inl ⟨by rfl, ?_⟩) hHeld ?_
          · rintro V ⟨⟨x0l, x00, x01, x02, x03, x04, x05, x06, x0z⟩, ⟨x1l, x10, x11, x12, x13, x14, x15, x16, x1z⟩, -⟩
            go_simp
          try simp only [Act.put, List.getElem_toArray, List.getElem_cons_succ, List.getElem_cons_zero, List.setIfInBounds_toArray, List.set_cons_zero, List.set_cons_succ]
          refine wpAnyH_take (i := 23) (v := .int .i64 0) rfl (by kernel_rfl) (by kernel_rfl) (by kernel_rfl) (fun _ _ _ h => h) (Or.inl ⟨by rfl, ?_⟩) hHeld ?_
          · rintro V ⟨⟨x0l, x00, x01, x02, x03, x04, x05, x06, x0z⟩, ⟨x1l, x10, x11, x12, x13, x14, x15, x16, x1z⟩, -⟩
            go_simp
          try simp only [Act.put, List.getElem_toArray, List.getElem_cons_succ, List.getElem_cons_zero, List.setIfInBounds_toArray, List.set_cons_zero, List.set_cons_succ]
          refine wpAnyH_ready (rs := [25]) (by kernel_rfl) (by simp) ?_
          refine AllReadyH.cons rfl (fun K hK => ?_) AllReadyH.nil
          obtain ⟨oXl, oX0, oX1, oX2, oX3, oX4, oX5, oX6, oXz⟩ := hXT
          try dsimp only at oX0 oX1 oX2 oX3 oX4 oX5 oX6
          go_simp
          refine hK.out _ _ ⟨(((((((hHeld.1.set_other hneT0 _).set_other hneT0 _).set_other hneT0 _).set_other hneT0 _).set_other hneT0 _).set_other hneT0 _).set_other hneT0 _), (((((((hHeld.2.1.set_other hneT1 _).set_other hneT1 _).set_other hneT1 _).set_other hneT1 _).set_other hneT1 _).set_other hneT1 _).set_other hneT1 _), (((((((hHeld.2.2.setCell hleT _).setCell hleT _).setCell hleT _).setCell hleT _).setCell hleT _).setCell hleT _).setCell hleT _)⟩ (fun hHeld => ?_)
          clear hK
          refine wpAnyH_gen ?_
          intro U7 hU
          have hXT : HasIm U7 U1.heap.size ⟨⟨1 + D.w % 6, 1 + D.h % 6, n, 16, D.pl, padOf D.p⟩, O0⟩ := ⟨by rw [hU]; go_simp, by rw [hU]; go_simp, by rw [hU]; go_simp, by rw [hU]; go_simp, by rw [hU]; go_simp, by rw [hU]; go_simp, by rw [hU]; go_simp, by rw [hU]; go_simp, fun o => by rw [hU]; go_simp⟩
          have hM0 : HasDr U7 w.heap.size ⟨D.w, D.h, D.c, D.p, true, D.pl, D.vs⟩ a cap := by rw [hU]; exact hHeld.1
          have hM1 : HasIm U7 (w.heap.size + 1) ⟨⟨0, 0, 0, 0, false, 0⟩, ⟨#[]⟩⟩ := by rw [hU]; exact hHeld.2.1
          have hKB : Below w.heap.size w U7 := by rw [hU]; exact hHeld.2.2
          replace hHeld : HasDr U7 w.heap.size ⟨D.w, D.h, D.c, D.p, true, D.pl, D.vs⟩ a cap ∧ HasIm U7 (w.heap.size + 1) ⟨⟨0, 0, 0, 0, false, 0⟩, ⟨#[]⟩⟩ ∧ Below w.heap.size w U7 := ⟨hM0, hM1, hKB⟩
          clear hU
          refine wpAnyH_take (i := 26) (v := .int .i64 0) rfl (by kernel_rfl) (by kernel_rfl) (by kernel_rfl) (fun _ _ _ h => h) (Or.inl ⟨by rfl, ?_⟩) hHeld ?_
          · rintro V ⟨⟨x0l, x00, x01, x02, x03, x04, x05, x06, x0z⟩, ⟨x1l, x10, x11, x12, x13, x14, x15, x16, x1z⟩, -⟩
            go_simp
          try simp only [Act.put, List.getElem_toArray, List.getElem_cons_succ, List.getElem_cons_zero, List.setIfInBounds_toArray, List.set_cons_zero, List.set_cons_succ]
          refine wpAnyH_done (by kernel_rfl) ?_ _
          try simp only [Act.put, List.getElem_toArray, List.getElem_cons_succ, List.getElem_cons_zero, List.setIfInBounds_toArray, List.set_cons_zero, List.set_cons_succ]
          go_wp2_with fail
          go_meet
          exact ⟨U1.heap.size, rfl, hgtT1, hXT, hHeld.1, hHeld.2.1, hHeld.2.2⟩
        refine AllReadyH.cons rfl (fun K hK => ?_) AllReadyH.nil
        go_simp
        have hgtT0 : w.heap.size < U1.heap.size := hHeld.1.lt
        have hneT0 : w.heap.size ≠ U1.heap.size := Nat.ne_of_lt hHeld.1.lt
        have hgtT1 : (w.heap.size + 1) < U1.heap.size := hHeld.2.1.lt
        have hneT1 : (w.heap.size + 1) ≠ U1.heap.size := Nat.ne_of_lt hHeld.2.1.lt
        have hleT : w.heap.size ≤ U1.heap.size := hHeld.2.2.size
        replace hXL := hXL.below ((Below.refl U1.heap.size U1).alloc (Nat.le_refl _) (.cells #[.int .i64 0, .int .i64 0, .int .i64 0, .int .i64 0, .bool false, .int .i64 0, .string ⟨#[]⟩] 31))
        refine hK.out _ _ ⟨hHeld.1.below ((Below.refl _ _).alloc (Nat.le_refl _) _), hHeld.2.1.below ((Below.refl _ _).alloc (Nat.le_refl _) _), hHeld.2.2.alloc hHeld.2.2.size _⟩ (fun hHeld => ?_)
        clear hK
        have hXT : HasIm (U1.alloc (.cells #[.int .i64 0, .int .i64 0, .int .i64 0, .int .i64 0, .bool false, .int .i64 0, .string ⟨#[]⟩] 31)) U1.heap.size ⟨⟨0, 0, 0, 0, false, 0⟩, ⟨#[]⟩⟩ := ⟨by go_simp, by go_simp, by go_simp, by go_simp, by go_simp, by go_simp, by go_simp, by go_simp, fun o => by go_simp⟩
        refine wpAnyH_gen ?_
        intro U8 hU
        have hM0 : HasDr U8 w.heap.size ⟨D.w, D.h, D.c, D.p, true, D.pl, D.vs⟩ a cap := by rw [hU]; exact hHeld.1
        have hM1 : HasIm U8 (w.heap.size + 1) ⟨⟨0, 0, 0, 0, false, 0⟩, ⟨#[]⟩⟩ := by rw [hU]; exact hHeld.2.1
        have hKB : Below w.heap.size w U8 := by rw [hU]; exact hHeld.2.2
        have hXL : Ints U8 (some ⟨U0.heap.size, 0, none⟩) [1, 2, 4, 8] := by rw [hU]; exact hXL
        have hXT : HasIm U8 U1.heap.size ⟨⟨0, 0, 0, 0, false, 0⟩, ⟨#[]⟩⟩ := by rw [hU]; exact hXT
        replace hHeld : HasDr U8 w.heap.size ⟨D.w, D.h, D.c, D.p, true, D.pl, D.vs⟩ a cap ∧ HasIm U8 (w.heap.size + 1) ⟨⟨0, 0, 0, 0, false, 0⟩, ⟨#[]⟩⟩ ∧ Below w.heap.size w U8 := ⟨hM0, hM1, hKB⟩
        clear hU
        refine wpAnyH_ready (rs := [19]) (by kernel_rfl) (by simp) ?_
        refine AllReadyH.cons rfl (fun K hK => ?_) AllReadyH.nil
        obtain ⟨lb, lo, lx, le, lc, lX⟩ := hXL.at (k := (D.p % 4).toNat) (by simp; omega)
        cases le
        have lX' := lX.out
        have lpad := padOf_at D.p a5
        rw [lX', Option.getD_some] at lpad
        rw [lpad, Nat.zero_add] at lc
        clear lX lX' lpad
        go_simp
        refine hK.out _ _ hHeld (fun hHeld => ?_)
        clear hK
        refine wpAnyH_ready (rs := [20]) (by kernel_rfl) (by simp) ?_
        refine AllReadyH.cons rfl (fun K hK => ?_) AllReadyH.nil
        go_simp
        (with_reducible refine calls_gen ?_)
        intro U9 hU
        have hM0 : HasDr U9 w.heap.size ⟨D.w, D.h, D.c, D.p, true, D.pl, D.vs⟩ a cap := by rw [hU]; exact hHeld.1
        have hM1 : HasIm U9 (w.heap.size + 1) ⟨⟨0, 0, 0, 0, false, 0⟩, ⟨#[]⟩⟩ := by rw [hU]; exact hHeld.2.1
        have hKB : Below w.heap.size w U9 := by rw [hU]; exact hHeld.2.2
        have hXL : Ints U9 (some ⟨U0.heap.size, 0, none⟩) [1, 2, 4, 8] := by rw [hU]; exact hXL
        have hXT : HasIm U9 U1.heap.size ⟨⟨0, 0, 0, 0, false, 0⟩, ⟨#[]⟩⟩ := by rw [hU]; exact hXT
        (with_reducible refine (HMK.out U9).mono ?_)
        rintro e N9 ⟨rfl, hb⟩
        replace hXL := hXL.below hb
        replace hXT := hXT.below hb
        refine hK.out _ _ ⟨hM0.below hb, hM1.below hb, hKB.trans (hb.mono hKB.size)⟩ (fun hHeld => ?_)
        clear hK
        refine wpAnyH_take (i := 21) (v := .tuple #[imgV (1 + D.w % 6) (1 + D.h % 6) n 16 D.pl (padOf D.p) O0, .int .i64 0]) rfl (by kernel_rfl) (by kernel_rfl) (by kernel_rfl) (fun _ _ _ h => h) (Or.inl ⟨by rfl, ?_⟩) hHeld ?_
        · rintro V ⟨⟨x0l, x00, x01, x02, x03, x04, x05, x06, x0z⟩, ⟨x1l, x10, x11, x12, x13, x14, x15, x16, x1z⟩, -⟩
          go_simp
        try simp only [Act.put, List.getElem_toArray, List.getElem_cons_succ, List.getElem_cons_zero, List.setIfInBounds_toArray, List.set_cons_zero, List.set_cons_succ]
        refine wpAnyH_take (i := 22) (v := imgV (1 + D.w % 6) (1 + D.h % 6) n 16 D.pl (padOf D.p) O0) rfl (by kernel_rfl) (by kernel_rfl) (by kernel_rfl) (fun _ _ _ h => h) (Or.inl ⟨by rfl, ?_⟩) hHeld ?_
        · rintro V ⟨⟨x0l, x00, x01, x02, x03, x04, x05, x06, x0z⟩, ⟨x1l, x10, x11, x12, x13, x14, x15, x16, x1z⟩, -⟩
          go_simp
        try simp only [Act.put, List.getElem_toArray, List.getElem_cons_succ, List.getElem_cons_zero, List.setIfInBounds_toArray, List.set_cons_zero, List.set_cons_succ]
        refine wpAnyH_take (i := 23) (v := .int .i64 0) rfl (by kernel_rfl) (by kernel_rfl) (by kernel_rfl) (fun _ _ _ h => h) (Or.inl ⟨by rfl, ?_⟩) hHeld ?_
        · rintro V ⟨⟨x0l, x00, x01, x02, x03, x04, x05, x06, x0z⟩, ⟨x1l, x10, x11, x12, x13, x14, x15, x16, x1z⟩, -⟩
          go_simp
        try simp only [Act.put, List.getElem_toArray, List.getElem_cons_succ, List.getElem_cons_zero, List.setIfInBounds_toArray, List.set_cons_zero, List.set_cons_succ]
        refine wpAnyH_ready (rs := [25]) (by kernel_rfl) (by simp) ?_
        refine AllReadyH.cons rfl (fun K hK => ?_) AllReadyH.nil
        obtain ⟨oXl, oX0, oX1, oX2, oX3, oX4, oX5, oX6, oXz⟩ := hXT
        try dsimp only at oX0 oX1 oX2 oX3 oX4 oX5 oX6
        go_simp
        refine hK.out _ _ ⟨(((((((hHeld.1.set_other hneT0 _).set_other hneT0 _).set_other hneT0 _).set_other hneT0 _).set_other hneT0 _).set_other hneT0 _).set_other hneT0 _), (((((((hHeld.2.1.set_other hneT1 _).set_other hneT1 _).set_other hneT1 _).set_other hneT1 _).set_other hneT1 _).set_other hneT1 _).set_other hneT1 _), (((((((hHeld.2.2.setCell hleT _).setCell hleT _).setCell hleT _).setCell hleT _).setCell hleT _).setCell hleT _).setCell hleT _)⟩ (fun hHeld => ?_)
        clear hK
        refine wpAnyH_gen ?_
        intro U10 hU
        have hXT : HasIm U10 U1.heap.size ⟨⟨1 + D.w % 6, 1 + D.h % 6, n, 16, D.pl, padOf D.p⟩, O0⟩ := ⟨by rw [hU]; go_simp, by rw [hU]; go_simp, by rw [hU]; go_simp, by rw [hU]; go_simp, by rw [hU]; go_simp, by rw [hU]; go_simp, by rw [hU]; go_simp, by rw [hU]; go_simp, fun o => by rw [hU]; go_simp⟩
        have hM0 : HasDr U10 w.heap.size ⟨D.w, D.h, D.c, D.p, true, D.pl, D.vs⟩ a cap := by rw [hU]; exact hHeld.1
        have hM1 : HasIm U10 (w.heap.size + 1) ⟨⟨0, 0, 0, 0, false, 0⟩, ⟨#[]⟩⟩ := by rw [hU]; exact hHeld.2.1
        have hKB : Below w.heap.size w U10 := by rw [hU]; exact hHeld.2.2
        replace hHeld : HasDr U10 w.heap.size ⟨D.w, D.h, D.c, D.p, true, D.pl, D.vs⟩ a cap ∧ HasIm U10 (w.heap.size + 1) ⟨⟨0, 0, 0, 0, false, 0⟩, ⟨#[]⟩⟩ ∧ Below w.heap.size w U10 := ⟨hM0, hM1, hKB⟩
        clear hU
        refine wpAnyH_take (i := 26) (v := .int .i64 0) rfl (by kernel_rfl) (by kernel_rfl) (by kernel_rfl) (fun _ _ _ h => h) (Or.inl ⟨by rfl, ?_⟩) hHeld ?_
        · rintro V ⟨⟨x0l, x00, x01, x02, x03, x04, x05, x06, x0z⟩, ⟨x1l, x10, x11, x12, x13, x14, x15, x16, x1z⟩, -⟩
          go_simp
        try simp only [Act.put, List.getElem_toArray, List.getElem_cons_succ, List.getElem_cons_zero, List.setIfInBounds_toArray, List.set_cons_zero, List.set_cons_succ]
        refine wpAnyH_done (by kernel_rfl) ?_ _
        try simp only [Act.put, List.getElem_toArray, List.getElem_cons_succ, List.getElem_cons_zero, List.setIfInBounds_toArray, List.set_cons_zero, List.set_cons_succ]
        go_wp2_with fail
        go_meet
        exact ⟨U1.heap.size, rfl, hgtT1, hXT, hHeld.1, hHeld.2.1, hHeld.2.2⟩
      refine AllReadyH.cons rfl (fun K hK => ?_) AllReadyH.nil
      go_simp
      have hgtT0 : w.heap.size < U1.heap.size := hHeld.1.lt
      have hneT0 : w.heap.size ≠ U1.heap.size := Nat.ne_of_lt hHeld.1.lt
      have hgtT1 : (w.heap.size + 1) < U1.heap.size := hHeld.2.1.lt
      have hneT1 : (w.heap.size + 1) ≠ U1.heap.size := Nat.ne_of_lt hHeld.2.1.lt
      have hleT : w.heap.size ≤ U1.heap.size := hHeld.2.2.size
      replace hXL := hXL.below ((Below.refl U1.heap.size U1).alloc (Nat.le_refl _) (.cells #[.int .i64 0, .int .i64 0, .int .i64 0, .int .i64 0, .bool false, .int .i64 0, .string ⟨#[]⟩] 31))
      refine hK.out _ _ ⟨hHeld.1.below ((Below.refl _ _).alloc (Nat.le_refl _) _), hHeld.2.1.below ((Below.refl _ _).alloc (Nat.le_refl _) _), hHeld.2.2.alloc hHeld.2.2.size _⟩ (fun hHeld => ?_)
      clear hK
      have hXT : HasIm (U1.alloc (.cells #[.int .i64 0, .int .i64 0, .int .i64 0, .int .i64 0, .bool false, .int .i64 0, .string ⟨#[]⟩] 31)) U1.heap.size ⟨⟨0, 0, 0, 0, false, 0⟩, ⟨#[]⟩⟩ := ⟨by go_simp, by go_simp, by go_simp, by go_simp, by go_simp, by go_simp, by go_simp, by go_simp, fun o => by go_simp⟩
      refine wpAnyH_gen ?_
      intro U11 hU
      have hM0 : HasDr U11 w.heap.size ⟨D.w, D.h, D.c, D.p, true, D.pl, D.vs⟩ a cap := by rw [hU]; exact hHeld.1
      have hM1 : HasIm U11 (w.heap.size + 1) ⟨⟨0, 0, 0, 0, false, 0⟩, ⟨#[]⟩⟩ := by rw [hU]; exact hHeld.2.1
      have hKB : Below w.heap.size w U11 := by rw [hU]; exact hHeld.2.2
      have hXL : Ints U11 (some ⟨U0.heap.size, 0, none⟩) [1, 2, 4, 8] := by rw [hU]; exact hXL
      have hXT : HasIm U11 U1.heap.size ⟨⟨0, 0, 0, 0, false, 0⟩, ⟨#[]⟩⟩ := by rw [hU]; exact hXT
      replace hHeld : HasDr U11 w.heap.size ⟨D.w, D.h, D.c, D.p, true, D.pl, D.vs⟩ a cap ∧ HasIm U11 (w.heap.size + 1) ⟨⟨0, 0, 0, 0, false, 0⟩, ⟨#[]⟩⟩ ∧ Below w.heap.size w U11 := ⟨hM0, hM1, hKB⟩
      clear hU
      refine wpAnyH_ready (rs := [18]) (by kernel_rfl) (by simp) ?_
      refine AllReadyH.cons rfl (fun K hK => ?_) AllReadyH.nil
      go_simp
      refine hK.out _ _ hHeld (fun hHeld => ?_)
      clear hK
      refine wpAnyH_ready (rs := [19]) (by kernel_rfl) (by simp) ?_
      refine AllReadyH.cons rfl (fun K hK => ?_) AllReadyH.nil
      obtain ⟨lb, lo, lx, le, lc, lX⟩ := hXL.at (k := (D.p % 4).toNat) (by simp; omega)
      cases le
      have lX' := lX.out
      have lpad := padOf_at D.p a5
      rw [lX', Option.getD_some] at lpad
      rw [lpad, Nat.zero_add] at lc
      clear lX lX' lpad
      go_simp
      refine hK.out _ _ hHeld (fun hHeld => ?_)
      clear hK
      refine wpAnyH_ready (rs := [20]) (by kernel_rfl) (by simp) ?_
      refine AllReadyH.cons rfl (fun K hK => ?_) AllReadyH.nil
      go_simp
      (with_reducible refine calls_gen ?_)
      intro U12 hU
      have hM0 : HasDr U12 w.heap.size ⟨D.w, D.h, D.c, D.p, true, D.pl, D.vs⟩ a cap := by rw [hU]; exact hHeld.1
      have hM1 : HasIm U12 (w.heap.size + 1) ⟨⟨0, 0, 0, 0, false, 0⟩, ⟨#[]⟩⟩ := by rw [hU]; exact hHeld.2.1
      have hKB : Below w.heap.size w U12 := by rw [hU]; exact hHeld.2.2
      have hXL : Ints U12 (some ⟨U0.heap.size, 0, none⟩) [1, 2, 4, 8] := by rw [hU]; exact hXL
      have hXT : HasIm U12 U1.heap.size ⟨⟨0, 0, 0, 0, false, 0⟩, ⟨#[]⟩⟩ := by rw [hU]; exact hXT
      (with_reducible refine (HMK.out U12).mono ?_)
      rintro e N12 ⟨rfl, hb⟩
      replace hXL := hXL.below hb
      replace hXT := hXT.below hb
      refine hK.out _ _ ⟨hM0.below hb, hM1.below hb, hKB.trans (hb.mono hKB.size)⟩ (fun hHeld => ?_)
      clear hK
      refine wpAnyH_take (i := 21) (v := .tuple #[imgV (1 + D.w % 6) (1 + D.h % 6) n 16 D.pl (padOf D.p) O0, .int .i64 0]) rfl (by kernel_rfl) (by kernel_rfl) (by kernel_rfl) (fun _ _ _ h => h) (Or.inl ⟨by rfl, ?_⟩) hHeld ?_
      · rintro V ⟨⟨x0l, x00, x01, x02, x03, x04, x05, x06, x0z⟩, ⟨x1l, x10, x11, x12, x13, x14, x15, x16, x1z⟩, -⟩
        go_simp
      try simp only [Act.put, List.getElem_toArray, List.getElem_cons_succ, List.getElem_cons_zero, List.setIfInBounds_toArray, List.set_cons_zero, List.set_cons_succ]
      refine wpAnyH_take (i := 22) (v := imgV (1 + D.w % 6) (1 + D.h % 6) n 16 D.pl (padOf D.p) O0) rfl (by kernel_rfl) (by kernel_rfl) (by kernel_rfl) (fun _ _ _ h => h) (Or.inl ⟨by rfl, ?_⟩) hHeld ?_
      · rintro V ⟨⟨x0l, x00, x01, x02, x03, x04, x05, x06, x0z⟩, ⟨x1l, x10, x11, x12, x13, x14, x15, x16, x1z⟩, -⟩
        go_simp
      try simp only [Act.put, List.getElem_toArray, List.getElem_cons_succ, List.getElem_cons_zero, List.setIfInBounds_toArray, List.set_cons_zero, List.set_cons_succ]
      refine wpAnyH_take (i := 23) (v := .int .i64 0) rfl (by kernel_rfl) (by kernel_rfl) (by kernel_rfl) (fun _ _ _ h => h) (Or.inl ⟨by rfl, ?_⟩) hHeld ?_
      · rintro V ⟨⟨x0l, x00, x01, x02, x03, x04, x05, x06, x0z⟩, ⟨x1l, x10, x11, x12, x13, x14, x15, x16, x1z⟩, -⟩
        go_simp
      try simp only [Act.put, List.getElem_toArray, List.getElem_cons_succ, List.getElem_cons_zero, List.setIfInBounds_toArray, List.set_cons_zero, List.set_cons_succ]
      refine wpAnyH_ready (rs := [25]) (by kernel_rfl) (by simp) ?_
      refine AllReadyH.cons rfl (fun K hK => ?_) AllReadyH.nil
      obtain ⟨oXl, oX0, oX1, oX2, oX3, oX4, oX5, oX6, oXz⟩ := hXT
      try dsimp only at oX0 oX1 oX2 oX3 oX4 oX5 oX6
      go_simp
      refine hK.out _ _ ⟨(((((((hHeld.1.set_other hneT0 _).set_other hneT0 _).set_other hneT0 _).set_other hneT0 _).set_other hneT0 _).set_other hneT0 _).set_other hneT0 _), (((((((hHeld.2.1.set_other hneT1 _).set_other hneT1 _).set_other hneT1 _).set_other hneT1 _).set_other hneT1 _).set_other hneT1 _).set_other hneT1 _), (((((((hHeld.2.2.setCell hleT _).setCell hleT _).setCell hleT _).setCell hleT _).setCell hleT _).setCell hleT _).setCell hleT _)⟩ (fun hHeld => ?_)
      clear hK
      refine wpAnyH_gen ?_
      intro U13 hU
      have hXT : HasIm U13 U1.heap.size ⟨⟨1 + D.w % 6, 1 + D.h % 6, n, 16, D.pl, padOf D.p⟩, O0⟩ := ⟨by rw [hU]; go_simp, by rw [hU]; go_simp, by rw [hU]; go_simp, by rw [hU]; go_simp, by rw [hU]; go_simp, by rw [hU]; go_simp, by rw [hU]; go_simp, by rw [hU]; go_simp, fun o => by rw [hU]; go_simp⟩
      have hM0 : HasDr U13 w.heap.size ⟨D.w, D.h, D.c, D.p, true, D.pl, D.vs⟩ a cap := by rw [hU]; exact hHeld.1
      have hM1 : HasIm U13 (w.heap.size + 1) ⟨⟨0, 0, 0, 0, false, 0⟩, ⟨#[]⟩⟩ := by rw [hU]; exact hHeld.2.1
      have hKB : Below w.heap.size w U13 := by rw [hU]; exact hHeld.2.2
      replace hHeld : HasDr U13 w.heap.size ⟨D.w, D.h, D.c, D.p, true, D.pl, D.vs⟩ a cap ∧ HasIm U13 (w.heap.size + 1) ⟨⟨0, 0, 0, 0, false, 0⟩, ⟨#[]⟩⟩ ∧ Below w.heap.size w U13 := ⟨hM0, hM1, hKB⟩
      clear hU
      refine wpAnyH_take (i := 26) (v := .int .i64 0) rfl (by kernel_rfl) (by kernel_rfl) (by kernel_rfl) (fun _ _ _ h => h) (Or.inl ⟨by rfl, ?_⟩) hHeld ?_
      · rintro V ⟨⟨x0l, x00, x01, x02, x03, x04, x05, x06, x0z⟩, ⟨x1l, x10, x11, x12, x13, x14, x15, x16, x1z⟩, -⟩
        go_simp
      try simp only [Act.put, List.getElem_toArray, List.getElem_cons_succ, List.getElem_cons_zero, List.setIfInBounds_toArray, List.set_cons_zero, List.set_cons_succ]
      refine wpAnyH_done (by kernel_rfl) ?_ _
      try simp only [Act.put, List.getElem_toArray, List.getElem_cons_succ, List.getElem_cons_zero, List.setIfInBounds_toArray, List.set_cons_zero, List.set_cons_succ]
      go_wp2_with fail
      go_meet
      exact ⟨U1.heap.size, rfl, hgtT1, hXT, hHeld.1, hHeld.2.1, hHeld.2.2⟩
    refine AllReadyH.cons rfl (fun K hK => ?_) AllReadyH.nil
    go_simp
    have hgtT0 : w.heap.size < U0.heap.size := hHeld.1.lt
    have hneT0 : w.heap.size ≠ U0.heap.size := Nat.ne_of_lt hHeld.1.lt
    have hgtT1 : (w.heap.size + 1) < U0.heap.size := hHeld.2.1.lt
    have hneT1 : (w.heap.size + 1) ≠ U0.heap.size := Nat.ne_of_lt hHeld.2.1.lt
    have hleT : w.heap.size ≤ U0.heap.size := hHeld.2.2.size
    refine hK.out _ _ ⟨hHeld.1.below ((Below.refl _ _).alloc (Nat.le_refl _) _), hHeld.2.1.below ((Below.refl _ _).alloc (Nat.le_refl _) _), hHeld.2.2.alloc hHeld.2.2.size _⟩ (fun hHeld => ?_)
    clear hK
    have hXT : HasIm (U0.alloc (.cells #[.int .i64 0, .int .i64 0, .int .i64 0, .int .i64 0, .bool false, .int .i64 0, .string ⟨#[]⟩] 31)) U0.heap.size ⟨⟨0, 0, 0, 0, false, 0⟩, ⟨#[]⟩⟩ := ⟨by go_simp, by go_simp, by go_simp, by go_simp, by go_simp, by go_simp, by go_simp, by go_simp, fun o => by go_simp⟩
    refine wpAnyH_gen ?_
    intro U14 hU
    have hM0 : HasDr U14 w.heap.size ⟨D.w, D.h, D.c, D.p, true, D.pl, D.vs⟩ a cap := by rw [hU]; exact hHeld.1
    have hM1 : HasIm U14 (w.heap.size + 1) ⟨⟨0, 0, 0, 0, false, 0⟩, ⟨#[]⟩⟩ := by rw [hU]; exact hHeld.2.1
    have hKB : Below w.heap.size w U14 := by rw [hU]; exact hHeld.2.2
    have hXT : HasIm U14 U0.heap.size ⟨⟨0, 0, 0, 0, false, 0⟩, ⟨#[]⟩⟩ := by rw [hU]; exact hXT
    replace hHeld : HasDr U14 w.heap.size ⟨D.w, D.h, D.c, D.p, true, D.pl, D.vs⟩ a cap ∧ HasIm U14 (w.heap.size + 1) ⟨⟨0, 0, 0, 0, false, 0⟩, ⟨#[]⟩⟩ ∧ Below w.heap.size w U14 := ⟨hM0, hM1, hKB⟩
    clear hU
    refine wpAnyH_ready (rs := [14]) (by kernel_rfl) (by simp) ?_
    refine AllReadyH.cons rfl (fun K hK => ?_) AllReadyH.nil
    go_simp
    replace hXT := hXT.below ((Below.refl U14.heap.size U14).alloc (Nat.le_refl _) (.cells #[.int .i64 1, .int .i64 2, .int .i64 4, .int .i64 8] 3))
    refine hK.out _ _ ⟨hHeld.1.below ((Below.refl _ _).alloc (Nat.le_refl _) _), hHeld.2.1.below ((Below.refl _ _).alloc (Nat.le_refl _) _), hHeld.2.2.alloc hHeld.2.2.size _⟩ (fun hHeld => ?_)
    clear hK
    have hXL : Ints (U14.alloc (.cells #[.int .i64 1, .int .i64 2, .int .i64 4, .int .i64 8] 3)) (some ⟨U14.heap.size, 0, none⟩) [1, 2, 4, 8] := fun _ => ⟨_, _, rfl, fun i hi => by
      have : i = 0 ∨ i = 1 ∨ i = 2 ∨ i = 3 := by simp at hi; omega
      rcases this with rfl | rfl | rfl | rfl <;> go_simp⟩
    refine wpAnyH_gen ?_
    intro U15 hU
    have hM0 : HasDr U15 w.heap.size ⟨D.w, D.h, D.c, D.p, true, D.pl, D.vs⟩ a cap := by rw [hU]; exact hHeld.1
    have hM1 : HasIm U15 (w.heap.size + 1) ⟨⟨0, 0, 0, 0, false, 0⟩, ⟨#[]⟩⟩ := by rw [hU]; exact hHeld.2.1
    have hKB : Below w.heap.size w U15 := by rw [hU]; exact hHeld.2.2
    have hXT : HasIm U15 U0.heap.size ⟨⟨0, 0, 0, 0, false, 0⟩, ⟨#[]⟩⟩ := by rw [hU]; exact hXT
    have hXL : Ints U15 (some ⟨U14.heap.size, 0, none⟩) [1, 2, 4, 8] := by rw [hU]; exact hXL
    replace hHeld : HasDr U15 w.heap.size ⟨D.w, D.h, D.c, D.p, true, D.pl, D.vs⟩ a cap ∧ HasIm U15 (w.heap.size + 1) ⟨⟨0, 0, 0, 0, false, 0⟩, ⟨#[]⟩⟩ ∧ Below w.heap.size w U15 := ⟨hM0, hM1, hKB⟩
    clear hU
    refine wpAnyH_ready (rs := [18]) (by kernel_rfl) (by simp) ?_
    refine AllReadyH.cons rfl (fun K hK => ?_) AllReadyH.nil
    go_simp
    refine hK.out _ _ hHeld (fun hHeld => ?_)
    clear hK
    refine wpAnyH_ready (rs := [19]) (by kernel_rfl) (by simp) ?_
    refine AllReadyH.cons rfl (fun K hK => ?_) AllReadyH.nil
    obtain ⟨lb, lo, lx, le, lc, lX⟩ := hXL.at (k := (D.p % 4).toNat) (by simp; omega)
    cases le
    have lX' := lX.out
    have lpad := padOf_at D.p a5
    rw [lX', Option.getD_some] at lpad
    rw [lpad, Nat.zero_add] at lc
    clear lX lX' lpad
    go_simp
    refine hK.out _ _ hHeld (fun hHeld => ?_)
    clear hK
    refine wpAnyH_ready (rs := [20]) (by kernel_rfl) (by simp) ?_
    refine AllReadyH.cons rfl (fun K hK => ?_) AllReadyH.nil
    go_simp
    (with_reducible refine calls_gen ?_)
    intro U16 hU
    have hM0 : HasDr U16 w.heap.size ⟨D.w, D.h, D.c, D.p, true, D.pl, D.vs⟩ a cap := by rw [hU]; exact hHeld.1
    have hM1 : HasIm U16 (w.heap.size + 1) ⟨⟨0, 0, 0, 0, false, 0⟩, ⟨#[]⟩⟩ := by rw [hU]; exact hHeld.2.1
    have hKB : Below w.heap.size w U16 := by rw [hU]; exact hHeld.2.2
    have hXT : HasIm U16 U0.heap.size ⟨⟨0, 0, 0, 0, false, 0⟩, ⟨#[]⟩⟩ := by rw [hU]; exact hXT
    have hXL : Ints U16 (some ⟨U14.heap.size, 0, none⟩) [1, 2, 4, 8] := by rw [hU]; exact hXL
    (with_reducible refine (HMK.out U16).mono ?_)
    rintro e N16 ⟨rfl, hb⟩
    replace hXT := hXT.below hb
    replace hXL := hXL.below hb
    refine hK.out _ _ ⟨hM0.below hb, hM1.below hb, hKB.trans (hb.mono hKB.size)⟩ (fun hHeld => ?_)
    clear hK
    refine wpAnyH_take (i := 21) (v := .tuple #[imgV (1 + D.w % 6) (1 + D.h % 6) n 16 D.pl (padOf D.p) O0, .int .i64 0]) rfl (by kernel_rfl) (by kernel_rfl) (by kernel_rfl) (fun _ _ _ h => h) (Or.inl ⟨by rfl, ?_⟩) hHeld ?_
    · rintro V ⟨⟨x0l, x00, x01, x02, x03, x04, x05, x06, x0z⟩, ⟨x1l, x10, x11, x12, x13, x14, x15, x16, x1z⟩, -⟩
      go_simp
    try simp only [Act.put, List.getElem_toArray, List.getElem_cons_succ, List.getElem_cons_zero, List.setIfInBounds_toArray, List.set_cons_zero, List.set_cons_succ]
    refine wpAnyH_take (i := 22) (v := imgV (1 + D.w % 6) (1 + D.h % 6) n 16 D.pl (padOf D.p) O0) rfl (by kernel_rfl) (by kernel_rfl) (by kernel_rfl) (fun _ _ _ h => h) (Or.inl ⟨by rfl, ?_⟩) hHeld ?_
    · rintro V ⟨⟨x0l, x00, x01, x02, x03, x04, x05, x06, x0z⟩, ⟨x1l, x10, x11, x12, x13, x14, x15, x16, x1z⟩, -⟩
      go_simp
    try simp only [Act.put, List.getElem_toArray, List.getElem_cons_succ, List.getElem_cons_zero, List.setIfInBounds_toArray, List.set_cons_zero, List.set_cons_succ]
    refine wpAnyH_take (i := 23) (v := .int .i64 0) rfl (by kernel_rfl) (by kernel_rfl) (by kernel_rfl) (fun _ _ _ h => h) (Or.inl ⟨by rfl, ?_⟩) hHeld ?_
    · rintro V ⟨⟨x0l, x00, x01, x02, x03, x04, x05, x06, x0z⟩, ⟨x1l, x10, x11, x12, x13, x14, x15, x16, x1z⟩, -⟩
      go_simp
    try simp only [Act.put, List.getElem_toArray, List.getElem_cons_succ, List.getElem_cons_zero, List.setIfInBounds_toArray, List.set_cons_zero, List.set_cons_succ]
    refine wpAnyH_ready (rs := [25]) (by kernel_rfl) (by simp) ?_
    refine AllReadyH.cons rfl (fun K hK => ?_) AllReadyH.nil
    obtain ⟨oXl, oX0, oX1, oX2, oX3, oX4, oX5, oX6, oXz⟩ := hXT
    try dsimp only at oX0 oX1 oX2 oX3 oX4 oX5 oX6
    go_simp
    refine hK.out _ _ ⟨(((((((hHeld.1.set_other hneT0 _).set_other hneT0 _).set_other hneT0 _).set_other hneT0 _).set_other hneT0 _).set_other hneT0 _).set_other hneT0 _), (((((((hHeld.2.1.set_other hneT1 _).set_other hneT1 _).set_other hneT1 _).set_other hneT1 _).set_other hneT1 _).set_other hneT1 _).set_other hneT1 _), (((((((hHeld.2.2.setCell hleT _).setCell hleT _).setCell hleT _).setCell hleT _).setCell hleT _).setCell hleT _).setCell hleT _)⟩ (fun hHeld => ?_)
    clear hK
    refine wpAnyH_gen ?_
    intro U17 hU
    have hXT : HasIm U17 U0.heap.size ⟨⟨1 + D.w % 6, 1 + D.h % 6, n, 16, D.pl, padOf D.p⟩, O0⟩ := ⟨by rw [hU]; go_simp, by rw [hU]; go_simp, by rw [hU]; go_simp, by rw [hU]; go_simp, by rw [hU]; go_simp, by rw [hU]; go_simp, by rw [hU]; go_simp, by rw [hU]; go_simp, fun o => by rw [hU]; go_simp⟩
    have hM0 : HasDr U17 w.heap.size ⟨D.w, D.h, D.c, D.p, true, D.pl, D.vs⟩ a cap := by rw [hU]; exact hHeld.1
    have hM1 : HasIm U17 (w.heap.size + 1) ⟨⟨0, 0, 0, 0, false, 0⟩, ⟨#[]⟩⟩ := by rw [hU]; exact hHeld.2.1
    have hKB : Below w.heap.size w U17 := by rw [hU]; exact hHeld.2.2
    replace hHeld : HasDr U17 w.heap.size ⟨D.w, D.h, D.c, D.p, true, D.pl, D.vs⟩ a cap ∧ HasIm U17 (w.heap.size + 1) ⟨⟨0, 0, 0, 0, false, 0⟩, ⟨#[]⟩⟩ ∧ Below w.heap.size w U17 := ⟨hM0, hM1, hKB⟩
    clear hU
    refine wpAnyH_take (i := 26) (v := .int .i64 0) rfl (by kernel_rfl) (by kernel_rfl) (by kernel_rfl) (fun _ _ _ h => h) (Or.inl ⟨by rfl, ?_⟩) hHeld ?_
    · rintro V ⟨⟨x0l, x00, x01, x02, x03, x04, x05, x06, x0z⟩, ⟨x1l, x10, x11, x12, x13, x14, x15, x16, x1z⟩, -⟩
      go_simp
    try simp only [Act.put, List.getElem_toArray, List.getElem_cons_succ, List.getElem_cons_zero, List.setIfInBounds_toArray, List.set_cons_zero, List.set_cons_succ]
    refine wpAnyH_done (by kernel_rfl) ?_ _
    try simp only [Act.put, List.getElem_toArray, List.getElem_cons_succ, List.getElem_cons_zero, List.setIfInBounds_toArray, List.set_cons_zero, List.set_cons_succ]
    go_wp2_with fail
    go_meet
    exact ⟨U0.heap.size, rfl, hgtT1, hXT, hHeld.1, hHeld.2.1, hHeld.2.2⟩

  case rest =>
    obtain ⟨b7, rfl, hb7, hI7, hdr7, hz7, hB7⟩ := hcut
    clear hdr hz hB hsz
    obtain ⟨Wn, hWn⟩ : ∃ Wn : Nat, 1 + D.w % 6 = (Wn : Int) := Int.eq_ofNat_of_zero_le (by omega)
    obtain ⟨Hn, hHn⟩ : ∃ Hn : Nat, 1 + D.h % 6 = (Hn : Int) := Int.eq_ofNat_of_zero_le (by omega)
    obtain ⟨Cn, hCn⟩ : ∃ Cn : Nat, n = (Cn : Int) := Int.eq_ofNat_of_zero_le (by omega)
    have w6 : Wn ≤ 6 := by omega
    have h6 : Hn ≤ 6 := by omega
    have c4 : Cn ≤ 4 := by omega
    have hput : ∀ V ao cv (X Y k : Nat), k = Y * Wn + X → X < Wn → Y < Hn → Ints V ao ((List.range Cn).map fun j => D.fn n (X : Nat) (Y : Nat) (j : Nat)) →
        Calls Try.prog 52 #[imgV (1 + D.w % 6) (1 + D.h % 6) n 16 D.pl (padOf D.p) (drO D n k), .int .i64 X, .int .i64 Y, .slice ao Cn cv] V fun e w' =>
          e = .returned (imgV (1 + D.w % 6) (1 + D.h % 6) n 16 D.pl (padOf D.p) (drO D n (k + 1))) ∧ Below V.heap.size V w' := fun V ao cv X Y k hk hX hY hi => by
      have h := drput D HD.out n n1 n4 V ao cv X Y k Wn Cn hWn hCn hk hX (by show (Y : Int) < 1 + D.h % 6; omega) hi
      have eB : (D.lay n).B = 16 := by show D.B = 16; unfold Dr.B; rw [HDEEP.out]; rfl
      unfold Im.v Lay.img at h
      dsimp only at h
      rw [eB] at h
      exact h
    have hG0 : O0 = drO D n 0 := by rw [HO0.out]; exact drO_zero D HD.out n n1 n4
    have HPUT := Lib.hid hput
    have HW := Lib.hid hWn
    have HH := Lib.hid hHn
    have HC := Lib.hid hCn
    rw [hG0] at hI7
    have HI7 := Lib.hid hI7
    have HDR7 := Lib.hid hdr7
    have HZ7 := Lib.hid hz7
    have HB7 := Lib.hid hB7
    have hmost : ∀ i : Nat, D.vs ≠ [] → D.val i = D.vs[i % D.vs.length]?.getD 0 % 65536 := fun i h => by unfold Dr.val Dr.most; rw [if_neg h, HDEEP.out]; rfl
    have hmost0 : ∀ i : Nat, D.vs = [] → D.val i = 0 := fun i h => by unfold Dr.val; rw [if_pos h]
    have HM := Lib.hid hmost
    have HM0 := Lib.hid hmost0
    obtain ⟨i0, hi, hz0, hz1, hz2⟩ := info_of_int
    clear hput hWn hHn hCn hG0 hI7 hdr7 hz7 hB7 hmost hmost0
    go_wp2_with fail
    go_loopw [9, 10, 11, 12, 13, 14] (fun s9 s10 _ _ _ _ wr => ∃ Y N9 : Nat, Y ≤ Hn ∧ Hid (N9 = Y * Wn * Cn) ∧ s9 = .int .i64 N9 ∧ s10 = .int .i64 Y ∧ HasIm wr b7 ⟨⟨1 + D.w % 6, 1 + D.h % 6, n, 16, D.pl, padOf D.p⟩, drO D n (Y * Wn)⟩ ∧
        HasDr wr w.heap.size ⟨D.w, D.h, D.c, D.p, true, D.pl, D.vs⟩ a cap ∧ HasIm wr (w.heap.size + 1) ⟨⟨0, 0, 0, 0, false, 0⟩, ⟨#[]⟩⟩ ∧ Below w.heap.size w wr) (fun _ s10 _ _ _ _ _ => Hn - (intOf s10).toNat)
    case atStart => exact ⟨0, 0, Nat.zero_le _, Lib.hid (by simp), rfl, rfl, by rw [Nat.zero_mul]; exact HI7.out, HDR7.out, HZ7.out, HB7.out⟩
    case round =>
      obtain ⟨Y, N9, hY, hN9, rfl, rfl, hI, hdr, hz, hB⟩ := hrel
      obtain ⟨il, i0', i1, i2, i3, i4, i5, i6, iz⟩ := hI
      dsimp only at i0' i1 i2 i3 i4 i5 i6
      have HI := Lib.hid (⟨il, i0', i1, i2, i3, i4, i5, i6, iz⟩ : HasIm wr b7 ⟨⟨1 + D.w % 6, 1 + D.h % 6, n, 16, D.pl, padOf D.p⟩, drO D n (Y * Wn)⟩)
      have HDR := Lib.hid hdr
      have HZ := Lib.hid hz
      have HB := Lib.hid hB
      clear hdr hz hB
      by_cases hYl : Y < Hn
      · have hYt : (Y : Int) < 1 + D.h % 6 := by have := HH.out; omega
        go_wp2_with fail
        go_loopw [9, 11, 12, 13, 14] (fun s9 s11 _ _ _ wr => ∃ X N9 : Nat, X ≤ Wn ∧ Hid (N9 = (Y * Wn + X) * Cn) ∧ s9 = .int .i64 N9 ∧ s11 = .int .i64 X ∧ HasIm wr b7 ⟨⟨1 + D.w % 6, 1 + D.h % 6, n, 16, D.pl, padOf D.p⟩, drO D n (Y * Wn + X)⟩ ∧
            HasDr wr w.heap.size ⟨D.w, D.h, D.c, D.p, true, D.pl, D.vs⟩ a cap ∧ HasIm wr (w.heap.size + 1) ⟨⟨0, 0, 0, 0, false, 0⟩, ⟨#[]⟩⟩ ∧ Below w.heap.size w wr) (fun _ s11 _ _ _ _ => Wn - (intOf s11).toNat)
        case atStart => exact ⟨0, N9, Nat.zero_le _, Lib.hid (by rw [Nat.add_zero]; exact hN9.out), rfl, rfl, HI.out, HDR.out, HZ.out, HB.out⟩
        case round =>
          obtain ⟨X, M9, hX, hM9, rfl, rfl, hI, hdr, hz, hB⟩ := hrel
          obtain ⟨jl, j0, j1, j2, j3, j4, j5, j6, jz⟩ := hI
          dsimp only at j0 j1 j2 j3 j4 j5 j6
          have HI2 := Lib.hid (⟨jl, j0, j1, j2, j3, j4, j5, j6, jz⟩ : HasIm wr b7 ⟨⟨1 + D.w % 6, 1 + D.h % 6, n, 16, D.pl, padOf D.p⟩, drO D n (Y * Wn + X)⟩)
          have HDR2 := Lib.hid hdr
          have HZ2 := Lib.hid hz
          have HB2 := Lib.hid hB
          clear hdr hz hB
          by_cases hXl : X < Wn
          · have hXt : (X : Int) < 1 + D.w % 6 := by have := HW.out; omega
            obtain ⟨base, hbase⟩ : ∃ base, base = wr.heap.size := ⟨_, rfl⟩
            have hb7b : b7 < base := by rw [hbase]; exact jl
            have hbz : base ≤ wr.heap.size := by omega
            clear hbase
            go_wp2_with fail
            go_loopw [9, 12, 13, 14] (fun s9 s12 s13 _ wr => ∃ (k N : Nat) (ao : Option Addr) (cv : Nat), k ≤ Cn ∧ Hid (N = (Y * Wn + X) * Cn + k) ∧ s9 = .int .i64 N ∧ s13 = .int .i64 k ∧ s12 = .slice ao k cv ∧
                Owns wr base s12 ((List.range k).map fun j => D.fn n (X : Nat) (Y : Nat) (j : Nat)) ∧ HasIm wr b7 ⟨⟨1 + D.w % 6, 1 + D.h % 6, n, 16, D.pl, padOf D.p⟩, drO D n (Y * Wn + X)⟩ ∧
                HasDr wr w.heap.size ⟨D.w, D.h, D.c, D.p, true, D.pl, D.vs⟩ a cap ∧ HasIm wr (w.heap.size + 1) ⟨⟨0, 0, 0, 0, false, 0⟩, ⟨#[]⟩⟩ ∧ Below w.heap.size w wr ∧ base ≤ wr.heap.size) (fun _ _ s13 _ _ => Cn - (intOf s13).toNat)
            case atStart => exact ⟨0, M9, none, 0, Nat.zero_le _, Lib.hid (by rw [Nat.add_zero]; exact hM9.out), rfl, rfl, rfl, Owns.nil _ _, HI2.out, HDR2.out, HZ2.out, HB2.out, hbz⟩
            case round =>
              obtain ⟨k, N, ao, cv, hk, hN, rfl, rfl, rfl, hown, hI, hdr, hz, hB, hbs⟩ := hrel
              have HI3 := Lib.hid hI
              obtain ⟨dl, d0, d1, d2, d3, d4, d5, d6, dz⟩ := hdr
              dsimp only at d0 d1 d2 d3 d4 d5 d6
              have HDR3 := Lib.hid (⟨dl, d0, d1, d2, d3, d4, d5, d6, dz⟩ : HasDr wr w.heap.size ⟨D.w, D.h, D.c, D.p, true, D.pl, D.vs⟩ a cap)
              have HZ3 := Lib.hid hz
              have HB3 := Lib.hid hB
              have HOWN := Lib.hid hown
              have hown3 := hown
              unfold Owns at hown3
              rw [List.length_map, List.length_range] at hown3
              have hlow : ∀ q, Value.ownBlock (.slice ao k cv) = some q → base ≤ q := fun q hq => (hown3.lt q hq).1
              have HLOW := Lib.hid hlow
              clear hz hB hown hlow hI
              by_cases hkl : k < Cn
              · have hkt : (k : Int) < n := by have := HC.out; omega
                have hfn : D.fn n (X : Nat) (Y : Nat) (k : Nat) = D.val N := by
                  unfold Dr.fn
                  rw [HW.out, HC.out, hN.out]
                  congr 1
                have HFN := Lib.hid hfn
                have hNb : (N : Int) ≤ 1000 := by
                  have e1 : Y * Wn ≤ 6 * 6 := Nat.mul_le_mul (by omega) w6
                  have e2 : (Y * Wn + X) * Cn ≤ 42 * 4 := Nat.mul_le_mul (by omega) c4
                  have := hN.out
                  omega
                clear hfn
                by_cases hvs : D.vs = []
                · have hl0 : ¬ (0 : Int) < (D.vs.length : Int) := by rw [hvs]; simp
                  have hl1 : (D.vs.length : Int) ≤ 0 := by rw [hvs]; simp
                  have HVZ := Lib.hid (HM0.out N hvs)
                  clear hvs
                  go_wp2_with (first | (at_builtin; refine wpList_append_own _ rfl _ _ 44 rfl base 3 i0 (.int .i64 0) 1 8 Try.underlying44 hi hz0 hz1 hz2 rfl (by decide) _ _ _ rfl (hown3.alloc _) ⟨wr.heap.size, 0, none⟩ 1 1 [.int .i64 (0)] rfl rfl (cell_one_new _ _ _) (fun x hx => by simp at hx; subst hx; rfl) (by unfold maxLen; omega) (by omega) (by simp; omega) ?_; intro v' w4 hown' hgrow3 hnil3))
                  go_roundw
                  case rel =>
                    have hO : Owns w4 base v' ((List.range (k + 1)).map fun j => D.fn n (X : Nat) (Y : Nat) (j : Nat)) := by
                      rw [List.range_succ, List.map_append]
                      exact Owns.push (x := D.fn n (X : Nat) (Y : Nat) (k : Nat)) (by rw [List.length_map, List.length_range, show D.fn n (X : Nat) (Y : Nat) (k : Nat) = 0 from HFN.out.trans HVZ.out]; exact hown')
                    have hO' := hO
                    obtain ⟨a4, c4, hv4, _, _, _⟩ := hO.slice
                    rw [List.length_map, List.length_range] at hv4
                    have hsz3 := HB3.out.size
                    have hgs := hgrow3.size
                    rw [World.size_alloc] at hgs
                    refine ⟨k + 1, N + 1, a4, c4, by omega, Lib.hid (by have := hN.out; omega), by go_num, by go_num, hv4, hO', ?_, ?_, ?_, ?_, by omega⟩
                    · exact (HI3.out.below ((Below.refl _ _).alloc (Nat.le_refl _) _)).grownBy hgrow3 (fun e => by have := HLOW.out _ e; omega)
                    · exact (HDR3.out.below ((Below.refl _ _).alloc (Nat.le_refl _) _)).grownBy hgrow3 (fun e => by have := HLOW.out _ e; omega)
                    · exact (HZ3.out.below ((Below.refl _ _).alloc (Nat.le_refl _) _)).grownBy hgrow3 (fun e => by have := HLOW.out _ e; omega)
                    · exact (HB3.out.alloc (by omega) _).grown hgrow3 (by simp; omega) (fun q hq => by have := HLOW.out q hq; omega)
                  case measure => simp [intOf]; omega
                · have hl0 : (0 : Int) < (D.vs.length : Int) := by have := List.length_pos_iff.2 hvs; omega
                  have hl0n : 0 < D.vs.length := by omega
                  have hVZ := HM.out N hvs
                  obtain ⟨ub, uo, u, rfl, huc, hU⟩ := (HVS.out.below HB3.out).at (k := N % D.vs.length) (Nat.mod_lt _ hl0n)
                  rw [hU.out, Option.getD_some] at hVZ
                  obtain ⟨u0, u1⟩ := HD.out.vs u (List.mem_of_getElem? hU.out)
                  
                  have HVZ := Lib.hid hVZ
                  have hidx : ((N : Int) % (D.vs.length : Int)).toNat = N % D.vs.length := by rw [← Int.natCast_emod, Int.toNat_natCast]
                  have hix0 : 0 ≤ (N : Int) % (D.vs.length : Int) := Int.emod_nonneg _ (by omega)
                  have hix1 : (N : Int) % (D.vs.length : Int) < (D.vs.length : Int) := Int.emod_lt_of_pos _ hl0
                  clear hvs hVZ hidx
                  go_wp2_with fail
                  go_region
                  have hown4 : wr.drew.ownsRow base 3 1 (.slice ao k cv) k (((List.range k).map fun j => D.fn n (X : Nat) (Y : Nat) (j : Nat)).map (.int .i64)) := hown3
                  have hdrw : Below wr.heap.size wr wr.drew := (Below.refl _ _).drew
                  have hds : wr.drew.heap.size = wr.heap.size := rfl
                  generalize wr.drew = wd at hown4 hdrw hds ⊢
                  have hbs4 : base ≤ wd.heap.size := by omega
                  clear hds
                  go_wp2_with (first | (at_builtin; refine wpList_append_own _ rfl _ _ 44 rfl base 3 i0 (.int .i64 0) 1 8 Try.underlying44 hi hz0 hz1 hz2 rfl (by decide) _ _ _ rfl (hown4.alloc _) ⟨wd.heap.size, 0, none⟩ 1 1 [.int .i64 (u % 65536)] rfl rfl (cell_one_new _ _ _) (fun x hx => by simp at hx; subst hx; rfl) (by unfold maxLen; omega) (by omega) (by simp; omega) ?_; intro v' w4 hown' hgrow3 hnil3))
                  go_roundw
                  case rel =>
                    have hO : Owns w4 base v' ((List.range (k + 1)).map fun j => D.fn n (X : Nat) (Y : Nat) (j : Nat)) := by
                      rw [List.range_succ, List.map_append]
                      exact Owns.push (x := D.fn n (X : Nat) (Y : Nat) (k : Nat)) (by rw [List.length_map, List.length_range, show D.fn n (X : Nat) (Y : Nat) (k : Nat) = u % 65536 from HFN.out.trans HVZ.out]; exact hown')
                    have hO' := hO
                    obtain ⟨a4, c4, hv4, _, _, _⟩ := hO.slice
                    rw [List.length_map, List.length_range] at hv4
                    have hsz3 := HB3.out.size
                    have hgs := hgrow3.size
                    have hd4 := hdrw.size
                    rw [World.size_alloc] at hgs
                    refine ⟨k + 1, N + 1, a4, c4, by omega, Lib.hid (by have := hN.out; omega), by go_num, by go_num, hv4, hO', ?_, ?_, ?_, ?_, by omega⟩
                    · exact ((HI3.out.below hdrw).below ((Below.refl _ _).alloc (Nat.le_refl _) _)).grownBy hgrow3 (fun e => by have := HLOW.out _ e; omega)
                    · exact ((HDR3.out.below hdrw).below ((Below.refl _ _).alloc (Nat.le_refl _) _)).grownBy hgrow3 (fun e => by have := HLOW.out _ e; omega)
                    · exact ((HZ3.out.below hdrw).below ((Below.refl _ _).alloc (Nat.le_refl _) _)).grownBy hgrow3 (fun e => by have := HLOW.out _ e; omega)
                    · exact ((HB3.out.trans (hdrw.mono HB3.out.size)).alloc (by omega) _).grown hgrow3 (by simp; omega) (fun q hq => by have := HLOW.out q hq; omega)
                  case measure => simp [intOf]; omega
              · have hkk : k = Cn := by omega
                subst hkk
                have hkt' : n ≤ (k : Int) := by have := HC.out; omega
                obtain ⟨al, cl, hsl, hints, _, _⟩ := HOWN.out.slice
                rw [List.length_map, List.length_range] at hsl
                cases hsl
                obtain ⟨jl, j0, j1, j2, j3, j4, j5, j6, jz⟩ := HI3.out
                dsimp only at j0 j1 j2 j3 j4 j5 j6
                have hbb : w.heap.size ≠ b7 := by omega
                have hbb' : w.heap.size + 1 ≠ b7 := by omega
                go_wp2_with fail
                (with_reducible refine (HPUT.out _ _ _ X Y _ rfl hXl hYl hints).mono ?_)
                rintro e w5 ⟨rfl, hb5⟩
                have hI5 := HI3.out.below hb5
                have HDR5 := Lib.hid (HDR3.out.below hb5)
                have HZ5 := Lib.hid (HZ3.out.below hb5)
                have HB5 := Lib.hid (HB3.out.trans (hb5.mono HB3.out.size))
                clear jl j0 j1 j2 j3 j4 j5 j6 jz hb5
                obtain ⟨jl, j0, j1, j2, j3, j4, j5, j6, jz⟩ := hI5
                dsimp only at j0 j1 j2 j3 j4 j5 j6
                go_wp2_with fail
                go_roundw
                case rel =>
                  refine ⟨X + 1, N, by omega, Lib.hid (by rw [← Nat.add_assoc, Nat.succ_mul]; exact hN.out), rfl, by go_num, ?_, (((((((HDR5.out).set_other (by show _ ≠ b7; omega) _).set_other (by show _ ≠ b7; omega) _).set_other (by show _ ≠ b7; omega) _).set_other (by show _ ≠ b7; omega) _).set_other (by show _ ≠ b7; omega) _).set_other (by show _ ≠ b7; omega) _).set_other (by show _ ≠ b7; omega) _, (((((((HZ5.out).set_other (by show _ ≠ b7; omega) _).set_other (by show _ ≠ b7; omega) _).set_other (by show _ ≠ b7; omega) _).set_other (by show _ ≠ b7; omega) _).set_other (by show _ ≠ b7; omega) _).set_other (by show _ ≠ b7; omega) _).set_other (by show _ ≠ b7; omega) _, (((((((HB5.out).setCell (by show _ ≤ b7; omega) _).setCell (by show _ ≤ b7; omega) _).setCell (by show _ ≤ b7; omega) _).setCell (by show _ ≤ b7; omega) _).setCell (by show _ ≤ b7; omega) _).setCell (by show _ ≤ b7; omega) _).setCell (by show _ ≤ b7; omega) _⟩
                  show HasIm _ b7 ⟨_, drO D n (Y * Wn + X + 1)⟩
                  exact ⟨by go_simp, by go_simp, by go_simp, by go_simp, by go_simp, by go_simp, by go_simp, by go_simp, fun o => by go_simp⟩
                case measure => simp [intOf]; omega
          · have hXe : X = Wn := by omega
            subst hXe
            have hXt : 1 + D.w % 6 ≤ (X : Int) := by have := HW.out; omega
            go_wp2_with fail
            go_roundw
            case rel => exact ⟨Y + 1, M9, by omega, Lib.hid (by rw [Nat.succ_mul]; exact hM9.out), rfl, by go_num, by rw [Nat.succ_mul]; exact HI2.out, HDR2.out, HZ2.out, HB2.out⟩
            case measure => simp [intOf]; omega
      · have hYe : Y = Hn := by omega
        subst hYe
        have hYt : 1 + D.h % 6 ≤ (Y : Int) := by have := HH.out; omega
        obtain ⟨zl, z0, z1, z2, z3, z4, z5, z6, zz⟩ := HZ.out
        dsimp only at z0 z1 z2 z3 z4 z5 z6
        go_wp2_with fail
        refine bodyPost_ret (v := imgV (1 + D.w % 6) (1 + D.h % 6) n 16 D.pl (padOf D.p) (drO D n (Y * Wn))) ?_ rfl ?_
        · simp [results, Try.results30, go_sem, z0, z1, z2, z3, z4, z5, z6]
        · refine ⟨?_, ?_⟩
          · rw [dr_full D HD.out n n1 n4 Wn Y HW.out HH.out]
            have eB : D.B = 16 := by unfold Dr.B; rw [HDEEP.out]; rfl
            show _ = Ending.returned (imgV (1 + D.w % 6) (1 + D.h % 6) n D.B D.pl (padOf D.p) (D.some n).O)
            rw [eB]
          · have hB := HB.out
            ((repeat (first | (with_reducible exact Below.refl _ _) | (with_reducible refine Below.setCell ?_ ?_ _) | (with_reducible refine Below.alloc ?_ ?_ _) | (with_reducible refine Below.drew ?_) | (with_reducible refine Below.trans ?_ (Below.mono (by assumption) ?_)))); all_goals ((try simp only [World.size_alloc, World.size_drew, World.size_setCell]); omega))

end Go.Proofs.Ytphfbjeaklpddaa

/- Layer 42, the reference: Draft.Some, Draft.Image. -/
namespace Go.Proofs.Ytphfbjeaklpddaa
open Go.RowKit

attribute [local go_sem] Oper.semAt_some

theorem some_any (D : Dr) (hD : D.ok) (n : Int) (n1 : 1 ≤ n) (n4 : n ≤ 4) (a : Option Addr) (cap : Nat) (w : World) (hvs : U16s w a D.vs) :
    Calls Try.prog 30 #[D.v a cap, .int .i64 n] w fun e w' => e = .returned (D.some n).v ∧ Below w.heap.size w w' := by
  cases h : D.deep
  · exact somefalse D hD h n n1 n4 a cap w hvs
  · exact sometrue D hD h n n1 n4 a cap w hvs

/-- the draft's own image -/
def Dr.im (D : Dr) : Im := D.some (1 + D.c % 4)

set_option maxHeartbeats 1000000 in
theorem image_any (D : Dr) (hD : D.ok) (a : Option Addr) (cap : Nat) (w : World) (hvs : U16s w a D.vs) :
    Calls Try.prog 24 #[D.v a cap] w fun e w' => e = .returned D.im.v ∧ Below w.heap.size w w' := by
  have a1 := hD.c0
  have a2 := hD.c1
  have hs : ∀ V, Below w.heap.size w V → Calls Try.prog 30 #[D.v a cap, .int .i64 (1 + D.c % 4)] V fun e w' => e = .returned (D.some (1 + D.c % 4)).v ∧ Below V.heap.size V w' :=
    fun V hV => some_any D hD _ (by omega) (by omega) a cap V (hvs.below hV)
  have HS := Lib.hid hs
  clear hs hvs hD
  have t1 : D.c.tmod 4 = D.c % 4 := Int.tmod_eq_emod_of_nonneg a1
  unfold Dr.im Im.v Lay.img at *
  unfold Dr.v at *
  go_enter Try.func24, Try.ntmps24
  go_wp2_with fail
  (with_reducible refine (HS.out _ ?_).mono ?_)
  · exact ((Below.refl _ _).alloc (Nat.le_refl _) _).alloc (by simp) _
  rintro e w1 ⟨rfl, hb⟩
  obtain ⟨hc, hf, hz⟩ := after hb
  simp only [World.size_alloc] at hz
  have hx : w.heap.size < w1.heap.size := by omega
  have hx' : w.heap.size + 1 < w1.heap.size := by omega
  have hq : w.heap.size < w.heap.size + 1 + 1 := by omega
  go_wp2_with fail
  refine bodyPost_ret (v := (D.some (1 + D.c % 4)).v) ?_ rfl ?_
  · simp [results, Try.results24, go_sem, hc, hx, hx', hq, Im.v, Lay.img]
  refine ⟨rfl, ?_⟩
  ((repeat (first | (with_reducible exact Below.refl _ _) | (with_reducible refine Below.setCell ?_ ?_ _) | (with_reducible refine Below.alloc ?_ ?_ _) | (with_reducible refine Below.drew ?_) | (with_reducible refine Below.trans ?_ (Below.mono (by assumption) ?_)))); all_goals ((try simp only [World.size_alloc, World.size_drew, World.size_setCell]); omega))

end Go.Proofs.Ytphfbjeaklpddaa

/- Layer 42, the statements' guard: wakes. -/
namespace Go.Proofs.Ytphfbjeaklpddaa
open Go.RowKit

attribute [local go_sem] Oper.semAt_some

set_option maxRecDepth 100000 in
set_option maxHeartbeats 8000000 in
theorem wakes_any (w : World) : Calls Try.prog 11 #[] w fun e w' => e = .returned (.bool true) ∧ Below w.heap.size w w' := by
  go_enter Try.func11, Try.ntmps11
  go_wp2_with fail
  (with_reducible refine calls_gen ?_)
  intro V1 hV
  have hB1 : Below w.heap.size w V1 := by
    rw [hV]
    ((repeat (first | (with_reducible exact Below.refl _ _) | (with_reducible refine Below.setCell ?_ ?_ _) | (with_reducible refine Below.alloc ?_ ?_ _) | (with_reducible refine Below.drew ?_) | (with_reducible refine Below.trans ?_ (Below.mono (by assumption) ?_)))); all_goals ((try simp only [World.size_alloc, World.size_drew, World.size_setCell]); omega))
  have H := six_any V1
  have HH := Lib.hid H
  clear H hV
  (with_reducible refine HH.out.mono ?_)
  clear HH
  rintro e W1 ⟨rfl, hb⟩
  have KB := Lib.hid (hB1.trans (hb.mono hB1.size))
  clear hb hB1
  go_wp2_with fail
  (with_reducible refine calls_gen ?_)
  intro V2 hV
  have hP2 : Below W1.heap.size W1 V2 := by
    rw [hV]
    ((repeat (first | (with_reducible exact Below.refl _ _) | (with_reducible refine Below.setCell ?_ ?_ _) | (with_reducible refine Below.alloc ?_ ?_ _) | (with_reducible refine Below.drew ?_) | (with_reducible refine Below.trans ?_ (Below.mono (by assumption) ?_)))); all_goals ((try simp only [World.size_alloc, World.size_drew, World.size_setCell]); omega))
  have hB2 : Below w.heap.size w V2 := KB.out.trans (hP2.mono KB.out.size)
  have H := six_any V2
  have HH := Lib.hid H
  clear H hV
  (with_reducible refine HH.out.mono ?_)
  clear HH
  rintro e W2 ⟨rfl, hb⟩
  replace KB := Lib.hid (hB2.trans (hb.mono hB2.size))
  have hw2 := KB.out.size
  clear hb hB2 hP2
  go_wp2_with fail
  (with_reducible refine calls_gen ?_)
  intro V3 hV
  have hP3 : Below W2.heap.size W2 V3 := by
    rw [hV]
    ((repeat (first | (with_reducible exact Below.refl _ _) | (with_reducible refine Below.setCell ?_ ?_ _) | (with_reducible refine Below.alloc ?_ ?_ _) | (with_reducible refine Below.drew ?_) | (with_reducible refine Below.trans ?_ (Below.mono (by assumption) ?_)))); all_goals ((try simp only [World.size_alloc, World.size_drew, World.size_setCell]); omega))
  have hB3 : Below w.heap.size w V3 := KB.out.trans (hP3.mono KB.out.size)
  have A : Hid (HasIm V3 W2.heap.size ⟨⟨2, 1, 3, 8, false, 4⟩, ⟨#[1, 2, 3, 4, 5, 6, 0, 0]⟩⟩) := Lib.hid ⟨by rw [hV]; go_simp, by rw [hV]; go_simp, by rw [hV]; go_simp, by rw [hV]; go_simp, by rw [hV]; go_simp, by rw [hV]; go_simp, by rw [hV]; go_simp, by rw [hV]; go_simp, fun o => by rw [hV]; go_simp⟩
  have B : Hid (HasIm V3 (W2.heap.size + 1) ⟨⟨2, 1, 3, 8, false, 4⟩, ⟨#[1, 2, 3, 4, 5, 6, 0, 0]⟩⟩) := Lib.hid ⟨by rw [hV]; go_simp, by rw [hV]; go_simp, by rw [hV]; go_simp, by rw [hV]; go_simp, by rw [hV]; go_simp, by rw [hV]; go_simp, by rw [hV]; go_simp, by rw [hV]; go_simp, fun o => by rw [hV]; go_simp⟩
  have H := Img_stride sixI V3
  try unfold ImPost at H
  try unfold IntsPost at H
  simp only [six_stride] at H
  simp only [Im.v, Lay.img, sixI, Im.z, List.length_cons, List.length_nil, Nat.reduceAdd] at H
  have HH := Lib.hid H
  clear H hV
  (with_reducible refine HH.out.mono ?_)
  clear HH
  rintro e W3 ⟨rfl, hb⟩
  replace A := Lib.hid (A.out.below hb)
  replace B := Lib.hid (B.out.below hb)
  replace KB := Lib.hid (hB3.trans (hb.mono hB3.size))
  have hs3 := B.out.lt
  clear hb hB3 hP3
  obtain ⟨oAl, oA0, oA1, oA2, oA3, oA4, oA5, oA6, oAz⟩ := A.out
  dsimp only at oA0 oA1 oA2 oA3 oA4 oA5 oA6
  go_wp2_with fail
  (with_reducible refine calls_gen ?_)
  intro V4 hV
  have hP4 : Below W3.heap.size W3 V4 := by
    rw [hV]
    ((repeat (first | (with_reducible exact Below.refl _ _) | (with_reducible refine Below.setCell ?_ ?_ _) | (with_reducible refine Below.alloc ?_ ?_ _) | (with_reducible refine Below.drew ?_) | (with_reducible refine Below.trans ?_ (Below.mono (by assumption) ?_)))); all_goals ((try simp only [World.size_alloc, World.size_drew, World.size_setCell]); omega))
  have hB4 : Below w.heap.size w V4 := KB.out.trans (hP4.mono KB.out.size)
  replace A := Lib.hid (A.out.below hP4)
  replace B := Lib.hid (B.out.below hP4)
  have H := Img_get sixI 1 0 V4
  try unfold ImPost at H
  try unfold IntsPost at H
  simp only [six_get] at H
  simp only [Im.v, Lay.img, sixI, Im.z, List.length_cons, List.length_nil, Nat.reduceAdd] at H
  have HH := Lib.hid H
  clear H hV
  clear oAl oA0 oA1 oA2 oA3 oA4 oA5 oA6 oAz
  (with_reducible refine HH.out.mono ?_)
  clear HH
  rintro e W4 ⟨ga, gc, rfl, hga, hgl, hb⟩
  replace A := Lib.hid (A.out.below hb)
  replace B := Lib.hid (B.out.below hb)
  replace KB := Lib.hid (hB4.trans (hb.mono hB4.size))
  have GA := Lib.hid hga
  have GL := Lib.hid hgl
  have h24 := B.out.lt
  have hV4 : W3.heap.size ≤ V4.heap.size := hP4.size
  clear hga hgl
  clear hb hB4 hP4
  obtain ⟨oAl, oA0, oA1, oA2, oA3, oA4, oA5, oA6, oAz⟩ := A.out
  dsimp only at oA0 oA1 oA2 oA3 oA4 oA5 oA6
  go_wp2_with fail
  (with_reducible refine calls_gen ?_)
  intro V5 hV
  have hP5 : Below W4.heap.size W4 V5 := by
    rw [hV]
    ((repeat (first | (with_reducible exact Below.refl _ _) | (with_reducible refine Below.setCell ?_ ?_ _) | (with_reducible refine Below.alloc ?_ ?_ _) | (with_reducible refine Below.drew ?_) | (with_reducible refine Below.trans ?_ (Below.mono (by assumption) ?_)))); all_goals ((try simp only [World.size_alloc, World.size_drew, World.size_setCell]); omega))
  have hB5 : Below w.heap.size w V5 := KB.out.trans (hP5.mono KB.out.size)
  replace A := Lib.hid (A.out.below hP5)
  replace B := Lib.hid (B.out.below hP5)
  have hi : Ints V5 (some ⟨W4.heap.size, 0, none⟩) [7, 8, 9] := fun _ => ⟨_, _, rfl, fun i hi => by
    have : i = 0 ∨ i = 1 ∨ i = 2 := by simp at hi; omega
    rcases this with rfl | rfl | rfl <;> (rw [hV]; go_simp)⟩
  replace GA := Lib.hid (GA.out.below hP5)
  have H := Img_set sixI 0 0 [7, 8, 9] _ 3 V5 hi (by decide)
  try unfold ImPost at H
  try unfold IntsPost at H
  simp only [six_set] at H
  simp only [Im.v, Lay.img, sixI, Im.z, List.length_cons, List.length_nil, Nat.reduceAdd] at H
  have HH := Lib.hid H
  clear H hV
  clear oAl oA0 oA1 oA2 oA3 oA4 oA5 oA6 oAz
  (with_reducible refine HH.out.mono ?_)
  clear HH
  rintro e W5 ⟨rfl, hb⟩
  replace A := Lib.hid (A.out.below hb)
  replace B := Lib.hid (B.out.below hb)
  replace KB := Lib.hid (hB5.trans (hb.mono hB5.size))
  replace GA := Lib.hid (GA.out.below hb)
  have hs5 := B.out.lt
  clear hb hB5 hP5
  obtain ⟨oAl, oA0, oA1, oA2, oA3, oA4, oA5, oA6, oAz⟩ := A.out
  dsimp only at oA0 oA1 oA2 oA3 oA4 oA5 oA6
  go_wp2_with fail
  (with_reducible refine calls_gen ?_)
  intro V6 hV
  have hP6 : Below W5.heap.size W5 V6 := by
    rw [hV]
    ((repeat (first | (with_reducible exact Below.refl _ _) | (with_reducible refine Below.setCell ?_ ?_ _) | (with_reducible refine Below.alloc ?_ ?_ _) | (with_reducible refine Below.drew ?_) | (with_reducible refine Below.trans ?_ (Below.mono (by assumption) ?_)))); all_goals ((try simp only [World.size_alloc, World.size_drew, World.size_setCell]); omega))
  have hB6 : Below w.heap.size w V6 := KB.out.trans (hP6.mono KB.out.size)
  replace A := Lib.hid (A.out.below hP6)
  replace B := Lib.hid (B.out.below hP6)
  have C : Hid (HasIm V6 W5.heap.size ⟨⟨2, 1, 3, 8, false, 4⟩, ⟨#[7, 8, 9, 4, 5, 6, 0, 0]⟩⟩) := Lib.hid ⟨by rw [hV]; go_simp, by rw [hV]; go_simp, by rw [hV]; go_simp, by rw [hV]; go_simp, by rw [hV]; go_simp, by rw [hV]; go_simp, by rw [hV]; go_simp, by rw [hV]; go_simp, fun o => by rw [hV]; go_simp⟩
  replace GA := Lib.hid (GA.out.below hP6)
  have H := Img_shape sixI 8 true 1 V6
  try unfold ImPost at H
  try unfold IntsPost at H
  simp only [six_shape1] at H
  simp only [Im.v, Lay.img, sixI, Im.z, List.length_cons, List.length_nil, Nat.reduceAdd] at H
  have HH := Lib.hid H
  clear H hV
  clear oAl oA0 oA1 oA2 oA3 oA4 oA5 oA6 oAz
  (with_reducible refine HH.out.mono ?_)
  clear HH
  rintro e W6 ⟨rfl, hb⟩
  replace A := Lib.hid (A.out.below hb)
  replace B := Lib.hid (B.out.below hb)
  replace C := Lib.hid (C.out.below hb)
  replace KB := Lib.hid (hB6.trans (hb.mono hB6.size))
  replace GA := Lib.hid (GA.out.below hb)
  have hs6 := B.out.lt
  clear hb hB6 hP6
  obtain ⟨oAl, oA0, oA1, oA2, oA3, oA4, oA5, oA6, oAz⟩ := A.out
  dsimp only at oA0 oA1 oA2 oA3 oA4 oA5 oA6
  go_wp2_with fail
  (with_reducible refine calls_gen ?_)
  intro V7 hV
  have hP7 : Below W6.heap.size W6 V7 := by
    rw [hV]
    ((repeat (first | (with_reducible exact Below.refl _ _) | (with_reducible refine Below.setCell ?_ ?_ _) | (with_reducible refine Below.alloc ?_ ?_ _) | (with_reducible refine Below.drew ?_) | (with_reducible refine Below.trans ?_ (Below.mono (by assumption) ?_)))); all_goals ((try simp only [World.size_alloc, World.size_drew, World.size_setCell]); omega))
  have hB7 : Below w.heap.size w V7 := KB.out.trans (hP7.mono KB.out.size)
  replace A := Lib.hid (A.out.below hP7)
  replace B := Lib.hid (B.out.below hP7)
  replace C := Lib.hid (C.out.below hP7)
  have D : Hid (HasIm V7 W6.heap.size ⟨⟨2, 1, 3, 8, true, 1⟩, ⟨#[1, 4, 2, 5, 3, 6]⟩⟩) := Lib.hid ⟨by rw [hV]; go_simp, by rw [hV]; go_simp, by rw [hV]; go_simp, by rw [hV]; go_simp, by rw [hV]; go_simp, by rw [hV]; go_simp, by rw [hV]; go_simp, by rw [hV]; go_simp, fun o => by rw [hV]; go_simp⟩
  replace GA := Lib.hid (GA.out.below hP7)
  have H := Img_shape sixI 16 false 1 V7
  try unfold ImPost at H
  try unfold IntsPost at H
  simp only [six_shape2] at H
  simp only [Im.v, Lay.img, sixI, Im.z, List.length_cons, List.length_nil, Nat.reduceAdd] at H
  have HH := Lib.hid H
  clear H hV
  clear oAl oA0 oA1 oA2 oA3 oA4 oA5 oA6 oAz
  (with_reducible refine HH.out.mono ?_)
  clear HH
  rintro e W7 ⟨rfl, hb⟩
  replace A := Lib.hid (A.out.below hb)
  replace B := Lib.hid (B.out.below hb)
  replace C := Lib.hid (C.out.below hb)
  replace D := Lib.hid (D.out.below hb)
  replace KB := Lib.hid (hB7.trans (hb.mono hB7.size))
  replace GA := Lib.hid (GA.out.below hb)
  have hs7 := B.out.lt
  clear hb hB7 hP7
  obtain ⟨oAl, oA0, oA1, oA2, oA3, oA4, oA5, oA6, oAz⟩ := A.out
  dsimp only at oA0 oA1 oA2 oA3 oA4 oA5 oA6
  go_wp2_with fail
  (with_reducible refine calls_gen ?_)
  intro V8 hV
  have hP8 : Below W7.heap.size W7 V8 := by
    rw [hV]
    ((repeat (first | (with_reducible exact Below.refl _ _) | (with_reducible refine Below.setCell ?_ ?_ _) | (with_reducible refine Below.alloc ?_ ?_ _) | (with_reducible refine Below.drew ?_) | (with_reducible refine Below.trans ?_ (Below.mono (by assumption) ?_)))); all_goals ((try simp only [World.size_alloc, World.size_drew, World.size_setCell]); omega))
  have hB8 : Below w.heap.size w V8 := KB.out.trans (hP8.mono KB.out.size)
  replace A := Lib.hid (A.out.below hP8)
  replace B := Lib.hid (B.out.below hP8)
  replace C := Lib.hid (C.out.below hP8)
  replace D := Lib.hid (D.out.below hP8)
  have E : Hid (HasIm V8 W7.heap.size ⟨⟨2, 1, 3, 16, false, 1⟩, ⟨#[1, 1, 2, 2, 3, 3, 4, 4, 5, 5, 6, 6]⟩⟩) := Lib.hid ⟨by rw [hV]; go_simp, by rw [hV]; go_simp, by rw [hV]; go_simp, by rw [hV]; go_simp, by rw [hV]; go_simp, by rw [hV]; go_simp, by rw [hV]; go_simp, by rw [hV]; go_simp, fun o => by rw [hV]; go_simp⟩
  replace GA := Lib.hid (GA.out.below hP8)
  have H := Img_cut sixI 1 0 1 1 V8
  try unfold ImPost at H
  try unfold IntsPost at H
  simp only [six_cut] at H
  simp only [Im.v, Lay.img, sixI, Im.z, List.length_cons, List.length_nil, Nat.reduceAdd] at H
  have HH := Lib.hid H
  clear H hV
  clear oAl oA0 oA1 oA2 oA3 oA4 oA5 oA6 oAz
  (with_reducible refine HH.out.mono ?_)
  clear HH
  rintro e W8 ⟨rfl, hb⟩
  replace A := Lib.hid (A.out.below hb)
  replace B := Lib.hid (B.out.below hb)
  replace C := Lib.hid (C.out.below hb)
  replace D := Lib.hid (D.out.below hb)
  replace E := Lib.hid (E.out.below hb)
  replace KB := Lib.hid (hB8.trans (hb.mono hB8.size))
  replace GA := Lib.hid (GA.out.below hb)
  have hs8 := B.out.lt
  clear hb hB8 hP8
  obtain ⟨oAl, oA0, oA1, oA2, oA3, oA4, oA5, oA6, oAz⟩ := A.out
  dsimp only at oA0 oA1 oA2 oA3 oA4 oA5 oA6
  go_wp2_with fail
  (with_reducible refine calls_gen ?_)
  intro V9 hV
  have hP9 : Below W8.heap.size W8 V9 := by
    rw [hV]
    ((repeat (first | (with_reducible exact Below.refl _ _) | (with_reducible refine Below.setCell ?_ ?_ _) | (with_reducible refine Below.alloc ?_ ?_ _) | (with_reducible refine Below.drew ?_) | (with_reducible refine Below.trans ?_ (Below.mono (by assumption) ?_)))); all_goals ((try simp only [World.size_alloc, World.size_drew, World.size_setCell]); omega))
  have hB9 : Below w.heap.size w V9 := KB.out.trans (hP9.mono KB.out.size)
  replace A := Lib.hid (A.out.below hP9)
  replace B := Lib.hid (B.out.below hP9)
  replace C := Lib.hid (C.out.below hP9)
  replace D := Lib.hid (D.out.below hP9)
  replace E := Lib.hid (E.out.below hP9)
  have F : Hid (HasIm V9 W8.heap.size ⟨⟨1, 1, 3, 8, false, 4⟩, ⟨#[4, 5, 6, 0]⟩⟩) := Lib.hid ⟨by rw [hV]; go_simp, by rw [hV]; go_simp, by rw [hV]; go_simp, by rw [hV]; go_simp, by rw [hV]; go_simp, by rw [hV]; go_simp, by rw [hV]; go_simp, by rw [hV]; go_simp, fun o => by rw [hV]; go_simp⟩
  replace GA := Lib.hid (GA.out.below hP9)
  have H := Img_get sixI 2 0 V9
  try unfold ImPost at H
  try unfold IntsPost at H
  simp only [six_get2] at H
  simp only [Im.v, Lay.img, sixI, Im.z, List.length_cons, List.length_nil, Nat.reduceAdd] at H
  have HH := Lib.hid H
  clear H hV
  clear oAl oA0 oA1 oA2 oA3 oA4 oA5 oA6 oAz
  (with_reducible refine HH.out.mono ?_)
  clear HH
  rintro e W9 ⟨gb, gd, rfl, -, -, hb⟩
  replace A := Lib.hid (A.out.below hb)
  replace B := Lib.hid (B.out.below hb)
  replace C := Lib.hid (C.out.below hb)
  replace D := Lib.hid (D.out.below hb)
  replace E := Lib.hid (E.out.below hb)
  replace F := Lib.hid (F.out.below hb)
  replace KB := Lib.hid (hB9.trans (hb.mono hB9.size))
  replace GA := Lib.hid (GA.out.below hb)
  clear hb hB9 hP9
  go_wp2_with fail
  (with_reducible refine calls_gen ?_)
  intro V10 hV
  have hP10 : Below W9.heap.size W9 V10 := by
    rw [hV]
    ((repeat (first | (with_reducible exact Below.refl _ _) | (with_reducible refine Below.setCell ?_ ?_ _) | (with_reducible refine Below.alloc ?_ ?_ _) | (with_reducible refine Below.drew ?_) | (with_reducible refine Below.trans ?_ (Below.mono (by assumption) ?_)))); all_goals ((try simp only [World.size_alloc, World.size_drew, World.size_setCell]); omega))
  have hB10 : Below w.heap.size w V10 := KB.out.trans (hP10.mono KB.out.size)
  replace A := Lib.hid (A.out.below hP10)
  replace B := Lib.hid (B.out.below hP10)
  replace C := Lib.hid (C.out.below hP10)
  replace D := Lib.hid (D.out.below hP10)
  replace E := Lib.hid (E.out.below hP10)
  replace F := Lib.hid (F.out.below hP10)
  replace GA := Lib.hid (GA.out.below hP10)
  have H := Img_make ⟨65, 1, 1, 8, false, 1⟩ V10
  try unfold ImPost at H
  try unfold IntsPost at H
  simp only [six_make] at H
  simp only [Im.v, Lay.img, sixI, Im.z, List.length_cons, List.length_nil, Nat.reduceAdd] at H
  have HH := Lib.hid H
  clear H hV
  (with_reducible refine HH.out.mono ?_)
  clear HH
  rintro e W10 ⟨rfl, hb⟩
  replace A := Lib.hid (A.out.below hb)
  replace B := Lib.hid (B.out.below hb)
  replace C := Lib.hid (C.out.below hb)
  replace D := Lib.hid (D.out.below hb)
  replace E := Lib.hid (E.out.below hb)
  replace F := Lib.hid (F.out.below hb)
  replace KB := Lib.hid (hB10.trans (hb.mono hB10.size))
  replace GA := Lib.hid (GA.out.below hb)
  have hs10 := B.out.lt
  clear hb hB10 hP10
  obtain ⟨oBl, oB0, oB1, oB2, oB3, oB4, oB5, oB6, oBz⟩ := B.out
  dsimp only at oB0 oB1 oB2 oB3 oB4 oB5 oB6
  obtain ⟨oCl, oC0, oC1, oC2, oC3, oC4, oC5, oC6, oCz⟩ := C.out
  dsimp only at oC0 oC1 oC2 oC3 oC4 oC5 oC6
  obtain ⟨oDl, oD0, oD1, oD2, oD3, oD4, oD5, oD6, oDz⟩ := D.out
  dsimp only at oD0 oD1 oD2 oD3 oD4 oD5 oD6
  obtain ⟨oEl, oE0, oE1, oE2, oE3, oE4, oE5, oE6, oEz⟩ := E.out
  dsimp only at oE0 oE1 oE2 oE3 oE4 oE5 oE6
  obtain ⟨oFl, oF0, oF1, oF2, oF3, oF4, oF5, oF6, oFz⟩ := F.out
  dsimp only at oF0 oF1 oF2 oF3 oF4 oF5 oF6
  have hstr : ByteArray.extract ⟨#[1, 2, 3, 4, 5, 6, 0, 0]⟩ 0 7 ++ ⟨#[1]⟩ = (⟨#[1, 2, 3, 4, 5, 6, 0, 1]⟩ : ByteArray) := by kernel_rfl
  have HSTR := Lib.hid hstr
  clear hstr
  go_wp2_with fail
  (with_reducible refine calls_gen ?_)
  intro V11 hV
  have hstr := HSTR.out
  have q0 : W2.heap.size < W10.heap.size := by omega
  have q1 : W2.heap.size < W10.heap.size + 1 := by omega
  have q2 : W2.heap.size < W10.heap.size + 1 + 1 := by omega
  have q3 : W2.heap.size + 1 < W10.heap.size + 1 := by omega
  have q4 : W2.heap.size + 1 < W10.heap.size + 1 + 1 := by omega
  have hS : Below W10.heap.size (W10.setCell ⟨W2.heap.size + 1, 6, none⟩ (.string (ByteArray.extract ⟨#[1, 2, 3, 4, 5, 6, 0, 0]⟩ 0 7 ++ ⟨#[1]⟩))) V11 := by
    rw [hV]
    ((repeat (first | (with_reducible exact Below.refl _ _) | (with_reducible refine Below.setCell ?_ ?_ _) | (with_reducible refine Below.alloc ?_ ?_ _) | (with_reducible refine Below.drew ?_) | (with_reducible refine Below.trans ?_ (Below.mono (by assumption) ?_)))); all_goals ((try simp only [World.size_alloc, World.size_drew, World.size_setCell]); omega))
  have hKB := KB.out
  have hB11 : Below w.heap.size w V11 := by
    rw [hV]
    ((repeat (first | (with_reducible exact Below.refl _ _) | (with_reducible refine Below.setCell ?_ ?_ _) | (with_reducible refine Below.alloc ?_ ?_ _) | (with_reducible refine Below.drew ?_) | (with_reducible refine Below.trans ?_ (Below.mono (by assumption) ?_)))); all_goals ((try simp only [World.size_alloc, World.size_drew, World.size_setCell]); omega))
  have hgn : ∀ c off, ga = some ⟨c, off, none⟩ → c ≠ (⟨W2.heap.size + 1, 6, none⟩ : Addr).block := fun c off e => by have := GL.out c off e; show c ≠ W2.heap.size + 1; omega
  replace GA := Lib.hid ((GA.out.set_other hgn _).below (by rw [World.size_setCell]; exact hS))
  have hi : Ints V11 (some ⟨W10.heap.size + 1, 0, none⟩) [4, 5, 6] := fun _ => ⟨_, _, rfl, fun i hi => by
    have : i = 0 ∨ i = 1 ∨ i = 2 := by simp at hi; omega
    rcases this with rfl | rfl | rfl <;> (rw [hV]; go_simp)⟩
  have B' : Hid (HasIm V11 (W2.heap.size + 1) ⟨⟨2, 1, 3, 8, false, 4⟩, ⟨#[1, 2, 3, 4, 5, 6, 0, 1]⟩⟩) := Lib.hid ⟨by rw [hV]; go_simp, by rw [hV]; go_simp, by rw [hV]; go_simp, by rw [hV]; go_simp, by rw [hV]; go_simp, by rw [hV]; go_simp, by rw [hV]; go_simp, by rw [hV]; go_simp, fun o => by rw [hV]; go_simp⟩
  replace C := Lib.hid ((C.out.set_other (p := ⟨W2.heap.size + 1, 6, none⟩) (by show _ ≠ W2.heap.size + 1; omega) _).below (by rw [World.size_setCell]; exact hS))
  replace D := Lib.hid ((D.out.set_other (p := ⟨W2.heap.size + 1, 6, none⟩) (by show _ ≠ W2.heap.size + 1; omega) _).below (by rw [World.size_setCell]; exact hS))
  replace E := Lib.hid ((E.out.set_other (p := ⟨W2.heap.size + 1, 6, none⟩) (by show _ ≠ W2.heap.size + 1; omega) _).below (by rw [World.size_setCell]; exact hS))
  replace F := Lib.hid ((F.out.set_other (p := ⟨W2.heap.size + 1, 6, none⟩) (by show _ ≠ W2.heap.size + 1; omega) _).below (by rw [World.size_setCell]; exact hS))
  clear oBl oB0 oB1 oB2 oB3 oB4 oB5 oB6 oBz
  clear oCl oC0 oC1 oC2 oC3 oC4 oC5 oC6 oCz
  clear oDl oD0 oD1 oD2 oD3 oD4 oD5 oD6 oDz
  clear oEl oE0 oE1 oE2 oE3 oE4 oE5 oE6 oEz
  clear oFl oF0 oF1 oF2 oF3 oF4 oF5 oF6 oFz
  have H := equal_any [4, 5, 6] [4, 5, 6] ga (some ⟨W10.heap.size + 1, 0, none⟩) gc 3 V11 GA.out hi (by decide) (by decide)
  simp only [List.length_cons, List.length_nil, Nat.reduceAdd, decide_true] at H
  have HH := Lib.hid H
  clear H hV hi hS hKB hstr
  (with_reducible refine HH.out.mono ?_)
  clear HH
  rintro e W11 ⟨rfl, hb⟩
  replace B' := Lib.hid (B'.out.below hb)
  replace C := Lib.hid (C.out.below hb)
  replace D := Lib.hid (D.out.below hb)
  replace E := Lib.hid (E.out.below hb)
  replace F := Lib.hid (F.out.below hb)
  replace KB := Lib.hid (hB11.trans (hb.mono hB11.size))
  clear hb hB11
  obtain ⟨oCl, oC0, oC1, oC2, oC3, oC4, oC5, oC6, oCz⟩ := C.out
  dsimp only at oC0 oC1 oC2 oC3 oC4 oC5 oC6
  obtain ⟨oDl, oD0, oD1, oD2, oD3, oD4, oD5, oD6, oDz⟩ := D.out
  dsimp only at oD0 oD1 oD2 oD3 oD4 oD5 oD6
  obtain ⟨oEl, oE0, oE1, oE2, oE3, oE4, oE5, oE6, oEz⟩ := E.out
  dsimp only at oE0 oE1 oE2 oE3 oE4 oE5 oE6
  obtain ⟨oFl, oF0, oF1, oF2, oF3, oF4, oF5, oF6, oFz⟩ := F.out
  dsimp only at oF0 oF1 oF2 oF3 oF4 oF5 oF6
  obtain ⟨oBl, oB0, oB1, oB2, oB3, oB4, oB5, oB6, oBz⟩ := B'.out
  dsimp only at oB0 oB1 oB2 oB3 oB4 oB5 oB6
  have H := fun V => Img_check ⟨⟨2, 1, 3, 8, false, 4⟩, ⟨#[1, 2, 3, 4, 5, 6, 0, 1]⟩⟩ V
  simp only [six_check] at H
  simp only [Im.v, Lay.img] at H
  have HH := Lib.hid H
  clear H
  go_wp2_with fail
  (with_reducible refine (HH.out _).mono ?_)
  clear HH
  rintro e W12 ⟨rfl, hb⟩
  go_wp2_with fail
  refine bodyPost_ret (v := .bool true) ?_ rfl ?_
  · simp [results, Try.results11, go_sem]
  have hKB := KB.out
  refine ⟨rfl, ?_⟩
  ((repeat (first | (with_reducible exact Below.refl _ _) | (with_reducible refine Below.setCell ?_ ?_ _) | (with_reducible refine Below.alloc ?_ ?_ _) | (with_reducible refine Below.drew ?_) | (with_reducible refine Below.trans ?_ (Below.mono (by assumption) ?_)))); all_goals ((try simp only [World.size_alloc, World.size_drew, World.size_setCell]); omega))

end Go.Proofs.Ytphfbjeaklpddaa

/- Layer 42: the contracts of images, in the calculus of states. -/
namespace Go.Proofs.Ytphfbjeaklpddaa
open Go.RowKit

def imX (I : Im) : X := .agg [.d (.int .i64 I.L.W), .d (.int .i64 I.L.H), .d (.int .i64 I.L.C), .d (.int .i64 I.L.B), .d (.bool I.L.pl), .d (.int .i64 I.L.P), .d (.str I.O)]
def imC (I : Im) : List X := [.d (.int .i64 I.L.W), .d (.int .i64 I.L.H), .d (.int .i64 I.L.C), .d (.int .i64 I.L.B), .d (.bool I.L.pl), .d (.int .i64 I.L.P), .d (.str I.O)]
theorem imX_val (I : Im) : (imX I).val = I.v := rfl
def intsD (xs : List Int) : List D := xs.map (.int .i64)
def iX (n : Int) : X := .d (.int .i64 n)

/-- numbers that lie somewhere, as a reading of a slice -/
theorem ints_slw {w : World} {M : Nat → Prop} {a : Option Addr} {cap : Nat} {xs : List Int} (h : Ints w a xs) (hM : ∀ c off, a = some ⟨c, off, none⟩ → ¬ M c) : RD w M (.slice a xs.length cap) (.slw xs.length 1 (intsD xs)) := by
  refine .slw a _ cap 1 _ (fun i => .int .i64 (xs[i]?.getD 0)) (by simp [intsD]) (fun hn => ?_) (fun i x hx => ?_)
  · obtain ⟨b, off, rfl, g⟩ := h (by rintro rfl; simp at hn)
    exact ⟨b, off, rfl, World.block_lt_of_cell? _ _ (g 0 hn), hM _ _ rfl, fun i hi => g i (by omega)⟩
  · unfold intsD at hx
    rw [List.getElem?_map] at hx
    cases hq : xs[i]? with
    | none => rw [hq] at hx; cases hx
    | some q => rw [hq] at hx; cases hx; exact .int _ _

theorem slw_ints {w : World} {M : Nat → Prop} {v : Value} {xs : List Int} {n : Nat} (hn : n = xs.length) (h : RD w M v (.slw n 1 (intsD xs))) : ∃ a cap, v = .slice a xs.length cap ∧ Ints w a xs := by
  subst hn
  cases h with
  | slw a _ cap _ _ g hc ha hr =>
    refine ⟨a, cap, rfl, fun hx => ?_⟩
    obtain ⟨b, off, rfl, _, _, hg⟩ := ha (List.length_pos_iff.2 hx)
    refine ⟨b, off, rfl, fun i hi => ?_⟩
    have h1 : (intsD xs)[i]? = some (.int .i64 xs[i]) := by simp [intsD, hi]
    have h2 := hr i _ h1
    rw [hg i (by omega)]
    generalize g i = u at h2
    cases h2
    simp [hi]

theorem sl_ints {w : World} {M : Nat → Prop} {v : Value} {xs : List Int} {n : Nat} (hn : n = xs.length) (h : RD w M v (.sl n 1 (intsD xs))) : ∃ a cap, v = .slice a xs.length cap ∧ Ints w a xs := by
  subst hn
  obtain ⟨a, cap, hv, _, hc, hpos⟩ := h.sl_inv
  refine ⟨a, cap, hv, fun hx => ?_⟩
  obtain ⟨b, off, g, rfl, _, _, hg, hr⟩ := hpos (List.length_pos_iff.2 hx)
  refine ⟨b, off, rfl, fun i hi => ?_⟩
  have h1 : (intsD xs)[i]? = some (.int .i64 xs[i]) := by simp [intsD, hi]
  have h2 := hr i _ h1
  rw [hg i (by omega)]
  generalize g i = u at h2
  cases h2
  simp [hi]

theorem pc_check (I : Im) : PC Try.prog 15 [imX I] (iX (chkR I)) := PC_old rfl rfl fun w => Img_check I w
theorem pc_stride (I : Im) : PC Try.prog 13 [imX I] (.tup [iX (strR I).1, iX (strR I).2]) := PC_old rfl rfl fun w => Img_stride I w
theorem pc_make (W H C B : Int) (pl : Bool) (Pd : Int) : PC Try.prog 17 [iX W, iX H, iX C, iX B, .d (.bool pl), iX Pd] (.tup [imX (makR ⟨W, H, C, B, pl, Pd⟩).1, iX (makR ⟨W, H, C, B, pl, Pd⟩).2]) := PC_old rfl rfl fun w => Img_make ⟨W, H, C, B, pl, Pd⟩ w
theorem pc_shape (I : Im) (bits : Int) (pl : Bool) (pad : Int) : PC Try.prog 25 [imX I, iX bits, .d (.bool pl), iX pad] (.tup [imX (shpR I bits pl pad).1, iX (shpR I bits pl pad).2]) := PC_old rfl rfl fun w => Img_shape I bits pl pad w
theorem pc_cut (I : Im) (x y a b : Int) : PC Try.prog 28 [imX I, iX x, iX y, iX a, iX b] (.tup [imX (cutR I x y a b).1, iX (cutR I x y a b).2]) := PC_old rfl rfl fun w => Img_cut I x y a b w
theorem pc_paste (I J : Im) (x y : Int) : PC Try.prog 31 [imX I, imX J, iX x, iX y] (.tup [imX (pasR I J x y).1, iX (pasR I J x y).2]) := PC_old rfl rfl fun w => Img_paste I J x y w
theorem pc_wakes : PC Try.prog 11 [] (.d (.bool true)) := PC_old rfl rfl fun w => wakes_any w

def getX (r : List Int × Int) : X := .tup [.d (.slw r.1.length 1 (intsD r.1)), iX r.2]

theorem pc_ints {f : FuncId} {xs : List X} {r : List Int × Int} (hx : xs.all X.ex = true) (h : ∀ w, Calls Try.prog f (xs.map X.val).toArray w (IntsPost r w)) : PC Try.prog f xs (getX r) := by
  intro w M vs hM hs hv
  rw [args_ex hx hs hv]
  refine (h w).mono fun e w' ⟨a, cap, he, hi, ha, hb⟩ => ⟨_, he, .tup _ _ rfl fun i v x hv hx => ?_, hb⟩
  match i with
  | 0 => cases hv; cases hx; exact .d (ints_slw hi fun c off hc hm => by have := ha c off hc; have := hM c hm; omega)
  | 1 => cases hv; cases hx; exact .d (.int _ _)
  | i + 2 => simp at hv

theorem pc_get (I : Im) (x y : Int) : PC Try.prog 19 [imX I, iX x, iX y] (getX (getR I x y)) := pc_ints rfl fun w => Img_get I x y w

theorem pc_equal (xs ys : List Int) (hx : xs.length ≤ maxLen) (hy : ys.length ≤ maxLen) : PC Try.prog 21 [.d (.slw xs.length 1 (intsD xs)), .d (.slw ys.length 1 (intsD ys))] (.d (.bool (decide (xs = ys)))) := by
  refine PC_old' rfl fun w M vs hs hv => ?_
  obtain ⟨l⟩ := vs
  match l, hs with
  | [u, v], _ =>
    have h0 := hv 0 u _ rfl rfl
    have h1 := hv 1 v _ rfl rfl
    cases h0 with | d h0 =>
    cases h1 with | d h1 =>
    obtain ⟨a, ca, rfl, g0⟩ := slw_ints rfl h0
    obtain ⟨b, cb, rfl, g1⟩ := slw_ints rfl h1
    exact equal_any xs ys a b ca cb w g0 g1 hx hy

def u16D (xs : List Int) : List D := xs.map (.int .u16)
def drX (D : Dr) : X := .agg [.d (.int .u8 D.w), .d (.int .u8 D.h), .d (.int .u8 D.c), .d (.int .u8 D.p), .d (.bool D.deep), .d (.bool D.pl), .d (.slw D.vs.length 1 (u16D D.vs))]

def drC (D : Dr) : List X := [.d (.int .u8 D.w), .d (.int .u8 D.h), .d (.int .u8 D.c), .d (.int .u8 D.p), .d (.bool D.deep), .d (.bool D.pl), .d (.slw D.vs.length 1 (u16D D.vs))]
theorem drX_inv {w : World} {M : Nat → Prop} {ρ : Rho} {v : Value} {D : Dr} (h : RV w M ρ v (drX D)) : ∃ a cap, v = D.v a cap ∧ U16s w a D.vs := by
  unfold drX at h
  cases h with
  | agg cs _ hs h =>
    obtain ⟨l⟩ := cs
    match l, hs with
    | [c0, c1, c2, c3, c4, c5, c6], _ =>
      have e0 := (h 0 c0 _ rfl rfl).int_inv
      have e1 := (h 1 c1 _ rfl rfl).int_inv
      have e2 := (h 2 c2 _ rfl rfl).int_inv
      have e3 := (h 3 c3 _ rfl rfl).int_inv
      have e4 := (h 4 c4 _ rfl rfl).bool_inv
      have e5 := (h 5 c5 _ rfl rfl).bool_inv
      subst e0 e1 e2 e3 e4 e5
      have h6 := h 6 c6 _ rfl rfl
      cases h6 with | d h6 =>
      cases h6 with
      | slw a _ cap _ _ g hc ha hr =>
      refine ⟨a, cap, rfl, fun hx => ?_⟩
      obtain ⟨b, off, rfl, _, _, hg⟩ := ha (List.length_pos_iff.2 hx)
      refine ⟨b, off, rfl, fun i hi => ?_⟩
      have h1 : (u16D D.vs)[i]? = some (.int .u16 D.vs[i]) := by simp [u16D, hi]
      have h2 := hr i _ h1
      rw [hg i (by omega)]
      generalize g i = u at h2
      cases h2
      simp [hi]

theorem dr_rv {w : World} {D : Dr} {a : Option Addr} {cap : Nat} (h : U16s w a D.vs) : RV w (fun _ => False) noRho (D.v a cap) (drX D) := by
  refine .agg _ _ rfl fun i v x hv hx => ?_
  have h6 : RD w (fun _ => False) (.slice a D.vs.length cap) (.slw D.vs.length 1 (u16D D.vs)) := by
    refine .slw a _ cap 1 _ (fun i => .int .u16 (D.vs[i]?.getD 0)) (by simp [u16D]) (fun hn => ?_) (fun i x hx => ?_)
    · obtain ⟨b, off, rfl, g⟩ := h (by intro e; rw [e] at hn; simp at hn)
      exact ⟨b, off, rfl, World.block_lt_of_cell? _ _ (g 0 hn), fun h => h, fun i hi => g i (by omega)⟩
    · unfold u16D at hx
      rw [List.getElem?_map] at hx
      cases hq : D.vs[i]? with
      | none => rw [hq] at hx; cases hx
      | some q => rw [hq] at hx; cases hx; exact .int _ _
  match i with
  | 0 => cases hv; cases hx; exact .d (.int _ _)
  | 1 => cases hv; cases hx; exact .d (.int _ _)
  | 2 => cases hv; cases hx; exact .d (.int _ _)
  | 3 => cases hv; cases hx; exact .d (.int _ _)
  | 4 => cases hv; cases hx; exact .d (.bool _)
  | 5 => cases hv; cases hx; exact .d (.bool _)
  | 6 => cases hv; cases hx; exact .d h6
  | i + 7 => simp at hv

theorem pc_image (D : Dr) (hD : D.ok) : PC Try.prog 24 [drX D] (imX D.im) := by
  refine PC_old' rfl fun w M vs hs hv => ?_
  obtain ⟨l⟩ := vs
  match l, hs with
  | [u], _ =>
    obtain ⟨a, cap, rfl, hu⟩ := drX_inv (hv 0 u _ rfl rfl)
    exact image_any D hD a cap w hu

theorem pc_some (D : Dr) (hD : D.ok) (n : Int) (n1 : 1 ≤ n) (n4 : n ≤ 4) : PC Try.prog 30 [drX D, iX n] (imX (D.some n)) := by
  refine PC_old' rfl fun w M vs hs hv => ?_
  obtain ⟨l⟩ := vs
  match l, hs with
  | [u, v], _ =>
    obtain ⟨a, cap, rfl, hu⟩ := drX_inv (hv 0 u _ rfl rfl)
    have e := (hv 1 v _ rfl rfl).int_inv
    subst e
    exact some_any D hD n n1 n4 a cap w hu

/-! ### with the answers under names -/
theorem pc_check' {I : Im} {e : Int} (h : chkR I = e) : PC Try.prog 15 [imX I] (iX e) := h ▸ pc_check I
theorem pc_make' {W H C B : Int} {pl : Bool} {Pd : Int} {J : Im} {e : Int} (h : makR ⟨W, H, C, B, pl, Pd⟩ = (J, e)) : PC Try.prog 17 [iX W, iX H, iX C, iX B, .d (.bool pl), iX Pd] (.tup [imX J, iX e]) := by
  have := pc_make W H C B pl Pd; rwa [h] at this
theorem pc_shape' {I J : Im} {bits : Int} {pl : Bool} {pad e : Int} (h : shpR I bits pl pad = (J, e)) : PC Try.prog 25 [imX I, iX bits, .d (.bool pl), iX pad] (.tup [imX J, iX e]) := by
  have := pc_shape I bits pl pad; rwa [h] at this
theorem pc_cut' {I J : Im} {x y a b e : Int} (h : cutR I x y a b = (J, e)) : PC Try.prog 28 [imX I, iX x, iX y, iX a, iX b] (.tup [imX J, iX e]) := by
  have := pc_cut I x y a b; rwa [h] at this
theorem pc_paste' {I J K : Im} {x y e : Int} (h : pasR I J x y = (K, e)) : PC Try.prog 31 [imX I, imX J, iX x, iX y] (.tup [imX K, iX e]) := by
  have := pc_paste I J x y; rwa [h] at this
theorem pc_get' {I : Im} {x y : Int} {l : List Int} {n : Nat} {e : Int} (h : getR I x y = (l, e)) (hl : l.length = n) : PC Try.prog 19 [imX I, iX x, iX y] (.tup [.d (.slw n 1 (intsD l)), iX e]) := by
  subst hl
  have := pc_get I x y; rw [h] at this; exact this
theorem pc_equal' {xs ys : List Int} {n m : Nat} (hn : xs.length = n) (hm : ys.length = m) (h : n ≤ 1000) (h' : m ≤ 1000) {r : Bool} (hr : decide (xs = ys) = r) : PC Try.prog 21 [.d (.slw n 1 (intsD xs)), .d (.slw m 1 (intsD ys))] (.d (.bool r)) := by
  subst hn hm hr
  exact pc_equal xs ys (by unfold maxLen; omega) (by unfold maxLen; omega)
theorem pc_image' {D : Dr} {m : Im} (hD : D.ok) (h : D.im = m) : PC Try.prog 24 [drX D] (imX m) := h ▸ pc_image D hD
theorem pc_some' {D : Dr} {n : Int} {m : Im} (hD : D.ok) (n1 : 1 ≤ n) (n4 : n ≤ 4) (h : D.some n = m) : PC Try.prog 30 [drX D, iX n] (imX m) := h ▸ pc_some D hD n n1 n4

theorem intsD_at {xs : List Int} {k : Nat} {x : Int} (h : xs[k]? = some x) : ((intsD xs).drop (k * 1)).take 1 = [.int .i64 x] := by
  obtain ⟨hk, rfl⟩ := List.getElem?_eq_some_iff.1 h
  have hl : k < (intsD xs).length := by simpa [intsD] using hk
  rw [Nat.mul_one, List.drop_eq_getElem_cons hl, List.take_succ_cons, List.take_zero]
  simp [intsD]

set_option maxHeartbeats 400000 in
theorem neq_same (I : Im) : (∀ w, (eqGuard .neq 31 (.tmp 0) (.tmp 0) I.v I.v).run Try.prog w = .ok () w) ∧ ∀ w, (binOp .neq 31 I.v I.v).run Try.prog w = .ok (.bool false) w := by
  refine ⟨fun w => ?_, fun w => ?_⟩
  · simp only [eqGuard, Im.v, Lay.img, imgV]
    go_simp
  · simp only [Im.v, Lay.img, imgV]
    go_simp

end Go.Proofs.Ytphfbjeaklpddaa

/- For the rows of laws: a call that answers true and has only made new memory meets the row's post. -/
namespace Go.Proofs.Ytphfbjeaklpddaa
open Go.ChangeShapes Go.WideShapes Go.ChangeAt Go.RowKit

theorem trodAll_below {H : Type} {enc : TypeId × Value → H} {P : Program} (hl : laidOutB P = true) {W W' : World} (hb : Below W.heap.size W W') :
    ∀ {ts : List TypeId} {vs : List Value} {ds : List (DataW H)} {ps : List MemPlace}, (∀ t ∈ ts, P.readableRec t = true ∧ t < P.types.size) → DataW.TrodAll enc P W 0 (fun _ => true) true ts vs ds ps → (∀ x ∈ ps, x.block < W.heap.size) →
      DataW.TrodAll enc P W' 0 (fun b => decide (b < W.heap.size)) true ts vs ds ps
  | [], vs, ds, ps, _, h, _ => by
      obtain ⟨rfl, rfl, rfl⟩ := trodAll_nil h
      exact trodAll_mk0
  | t :: ts, vs, ds, ps, hr, h, hlt => by
      obtain ⟨v, vs', d, ds', p, q, rfl, rfl, rfl, h0, r0⟩ := trodAll_cons h
      refine trodAll_cons_mk (Below.trod hl (hr t (by simp)).1 (hr t (by simp)).2 h0 hb fun x hx => hlt x (by simp [hx])) ?_
      exact trodAll_below hl hb (fun t' ht' => hr t' (by simp [ht'])) r0 fun x hx => hlt x (by simp [hx])

theorem law_post {H : Type} {enc : TypeId × Value → H} {P : Program} {f : Func} {s : ChangeSpec} {apart : Bool} {W W' : World} {args : Array Value} {ds gs : List (DataW H)} {before : List MemPlace} {bt : TypeId}
    (hW : DataW.Whole enc P f.params.toList s.vars apart W args.toList ds gs before) (hv : s.vars = []) (hl : laidOutB P = true) (hr : ∀ t ∈ f.params.toList, P.readableRec t = true ∧ t < P.types.size)
    (ht : f.resultTypes = #[bt]) (hbt : P.underlying bt = some .bool) (hres : (s.fn H (ds ++ [])).results = [.lit (.bool true)]) (hargs : (s.fn H (ds ++ [])).args = ds) (hvars : (s.fn H (ds ++ [])).vars = [])
    (hb : Below W.heap.size W W') : s.post enc P f apart true false false W args (.bool true) W' := by
  have hlt := hW.lt
  have hW' := hW
  obtain ⟨p, q, hA, hV, rfl, hfz, hnd⟩ := hW
  rw [hv] at hV
  obtain ⟨rfl, rfl⟩ := trodVars_none hV
  refine ⟨ds, [], p ++ [], [], p, [], hW', ?_, ?_, ?_, hb.frame _, fun h => by cases h⟩
  · rw [ht, hres]
    exact trodAll_mk1 ⟨1, by simp [DataW.trod, Value.cells, hbt]⟩
  · rw [hargs]
    exact trodAll_below hl hb hr hA fun x hx => hlt x (by simp [hx])
  · rw [hv, hvars]
    rfl

end Go.Proofs.Ytphfbjeaklpddaa
