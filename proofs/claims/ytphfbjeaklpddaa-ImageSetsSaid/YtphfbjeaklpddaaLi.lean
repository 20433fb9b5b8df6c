/-
  Layer 42, the reference: Draft.Some, deep.
-/
import Derived.Test.YtphfbjeaklpddaaLh
namespace Go.Proofs.Ytphfbjeaklpddaa
open Go.RowKit

attribute [local go_sem] Oper.semAt_some

set_option maxRecDepth 100000 in
set_option maxHeartbeats 8000000 in
theorem sometrue (D : Dr) (hD : D.ok) (hdeep : D.deep = true) (n : Int) (n1 : 1 ≤ n) (n4 : n ≤ 4) (a : Option Addr) (cap : Nat) (w : World) (hvs : U16s w a D.vs) :
    Calls Try.prog 30 #[D.v a cap, .int .i64 n] w fun e w' => e = .returned (D.some n).v ∧ Below w.heap.size w w' := by
  have hok := D.lay_ok hD n n1 n4
  have hmk : ∀ V, Calls Try.prog 18 #[.int .i64 (1 + D.w % 6), .int .i64 (1 + D.h % 6), .int .i64 n, .int .i64 16, .bool D.pl, .int .i64 (padOf D.p)] V fun e w' =>
      e = .returned (.tuple #[imgV (1 + D.w % 6) (1 + D.h % 6) n 16 D.pl (padOf D.p) (imF (D.lay n) fun _ _ _ => 0).O, .int .i64 0]) ∧ Below V.heap.size V w' := fun V => by
    have h := rmake_ok (D.lay n) V hok
    have e : octS (D.lay n).len.toNat (fun _ => 0) = (imF (D.lay n) fun _ _ _ => 0).O := by rw [← imF_zero]
    rw [e] at h
    have eB : (D.lay n).B = 16 := by show D.B = 16; unfold Dr.B; rw [hdeep]; rfl
    unfold Lay.img at h
    rw [eB] at h
    exact h
  obtain ⟨O0, hO0⟩ : ∃ O0, O0 = (imF (D.lay n) fun _ _ _ => 0).O := ⟨_, rfl⟩
  rw [← hO0] at hmk
  have HO0 := Lib.hid hO0
  have HMK := Lib.hid hmk
  have HD := Lib.hid hD
  have HOK := Lib.hid hok
  have HDEEP := Lib.hid hdeep
  have HVS := Lib.hid hvs
  have a1 := hD.w0; have a2 := hD.w1; have a3 := hD.h0; have a4 := hD.h1; have a5 := hD.p0; have a6 := hD.p1
  have hlen := hD.len
  unfold maxLen at hlen
  clear hO0 hmk hD hok hvs
  unfold Dr.v
  rw [hdeep]
  clear hdeep
  go_enter Try.func30, Try.ntmps30
  go_upto_region 5 with fail
  (with_reducible refine wp_gen ?_)
  intro W0 hW0
  have hdr : HasDr W0 w.heap.size ⟨D.w, D.h, D.c, D.p, true, D.pl, D.vs⟩ a cap := ⟨by rw [hW0]; go_simp, by rw [hW0]; go_simp, by rw [hW0]; go_simp, by rw [hW0]; go_simp, by rw [hW0]; go_simp, by rw [hW0]; go_simp, by rw [hW0]; go_simp, by rw [hW0]; go_simp, fun o => by rw [hW0]; go_simp⟩
  have hz : HasIm W0 (w.heap.size + 1) ⟨⟨0, 0, 0, 0, false, 0⟩, ⟨#[]⟩⟩ := ⟨by rw [hW0]; go_simp, by rw [hW0]; go_simp, by rw [hW0]; go_simp, by rw [hW0]; go_simp, by rw [hW0]; go_simp, by rw [hW0]; go_simp, by rw [hW0]; go_simp, by rw [hW0]; go_simp, fun o => by rw [hW0]; go_simp⟩
  have hB : Below w.heap.size w W0 := by
    rw [hW0]
    ((repeat (first | (with_reducible exact Below.refl _ _) | (with_reducible refine Below.setCell ?_ ?_ _) | (with_reducible refine Below.alloc ?_ ?_ _) | (with_reducible refine Below.drew ?_) | (with_reducible refine Below.trans ?_ (Below.mono (by assumption) ?_)))); all_goals ((try simp only [World.size_alloc, World.size_drew, World.size_setCell]); omega))
  have hsz : w.heap.size + 1 < W0.heap.size := by rw [hW0]; simp
  clear hW0
  go_cut [7, 8] from 17 to 40 (fun s7 _ wx => ∃ b7, s7 = .pointer (some ⟨b7, 0, none⟩) ∧ w.heap.size + 1 < b7 ∧ HasIm wx b7 ⟨⟨1 + D.w % 6, 1 + D.h % 6, n, 16, D.pl, padOf D.p⟩, O0⟩ ∧ HasDr wx w.heap.size ⟨D.w, D.h, D.c, D.p, true, D.pl, D.vs⟩ a cap ∧ HasIm wx (w.heap.size + 1) ⟨⟨0, 0, 0, 0, false, 0⟩, ⟨#[]⟩⟩ ∧ Below w.heap.size w wx)
  case first =>
    have q1 : 0 ≤ D.w % 6 ∧ D.w % 6 < 6 := by omega
    have q2 : 0 ≤ D.h % 6 ∧ D.h % 6 < 6 := by omega
    have q3 : 0 ≤ D.p % 4 ∧ D.p % 4 < 4 := by omega
    have t1 : D.w.tmod 6 = D.w % 6 := Int.tmod_eq_emod_of_nonneg a1
    have t2 : D.h.tmod 6 = D.h % 6 := Int.tmod_eq_emod_of_nonneg a3
    have t3 : D.p.tmod 4 = D.p % 4 := Int.tmod_eq_emod_of_nonneg a5
    have w1 : IntKind.i64.wrap (D.w % 6) = D.w % 6 := by rw [IntKind.wrap_i64]; omega
    have w2 : IntKind.i64.wrap (D.h % 6) = D.h % 6 := by rw [IntKind.wrap_i64]; omega
    have w3 : IntKind.i64.wrap (1 + D.w % 6) = 1 + D.w % 6 := by rw [IntKind.wrap_i64]; omega
    have w4 : IntKind.i64.wrap (1 + D.h % 6) = 1 + D.h % 6 := by rw [IntKind.wrap_i64]; omega
    refine wp_region_held_drew (S := fun V => HasDr V w.heap.size ⟨D.w, D.h, D.c, D.p, true, D.pl, D.vs⟩ a cap ∧ HasIm V (w.heap.size + 1) ⟨⟨0, 0, 0, 0, false, 0⟩, ⟨#[]⟩⟩ ∧ Below w.heap.size w V) (by kernel_rfl) ⟨hdr.below (Below.refl _ _).drew, hz.below (Below.refl _ _).drew, hB.drew⟩ (fun hHeld => ?_)
    refine wpAnyH_gen ?_
    intro U0 hU
    have hM0 : HasDr U0 w.heap.size ⟨D.w, D.h, D.c, D.p, true, D.pl, D.vs⟩ a cap := by rw [hU]; exact hHeld.1
    have hM1 : HasIm U0 (w.heap.size + 1) ⟨⟨0, 0, 0, 0, false, 0⟩, ⟨#[]⟩⟩ := by rw [hU]; exact hHeld.2.1
    have hKB : Below w.heap.size w U0 := by rw [hU]; exact hHeld.2.2
    replace hHeld : HasDr U0 w.heap.size ⟨D.w, D.h, D.c, D.p, true, D.pl, D.vs⟩ a cap ∧ HasIm U0 (w.heap.size + 1) ⟨⟨0, 0, 0, 0, false, 0⟩, ⟨#[]⟩⟩ ∧ Below w.heap.size w U0 := ⟨hM0, hM1, hKB⟩
    clear hU
    refine wpAnyH_take (i := 0) (v := .pointer (some ⟨w.heap.size, 0, none⟩)) rfl (by kernel_rfl) (by kernel_rfl) (by kernel_rfl) (fun _ _ _ h => h) (Or.inl ⟨by rfl, ?_⟩) hHeld ?_
    · rintro V ⟨⟨x0l, x00, x01, x02, x03, x04, x05, x06, x0z⟩, ⟨x1l, x10, x11, x12, x13, x14, x15, x16, x1z⟩, -⟩
      go_simp
    try simp only [Act.put, List.getElem_toArray, List.getElem_cons_succ, List.getElem_cons_zero, List.setIfInBounds_toArray, List.set_cons_zero, List.set_cons_succ]
    refine wpAnyH_take (i := 1) (v := .int .u8 D.w) rfl (by kernel_rfl) (by kernel_rfl) (by kernel_rfl) (fun _ _ _ h => h) (Or.inl ⟨by rfl, ?_⟩) hHeld ?_
    · rintro V ⟨⟨x0l, x00, x01, x02, x03, x04, x05, x06, x0z⟩, ⟨x1l, x10, x11, x12, x13, x14, x15, x16, x1z⟩, -⟩
      go_simp
    try simp only [Act.put, List.getElem_toArray, List.getElem_cons_succ, List.getElem_cons_zero, List.setIfInBounds_toArray, List.set_cons_zero, List.set_cons_succ]
    refine wpAnyH_take (i := 2) (v := .int .u8 (D.w % 6)) rfl (by kernel_rfl) (by kernel_rfl) (by kernel_rfl) (fun _ _ _ h => h) (Or.inl ⟨by rfl, ?_⟩) hHeld ?_
    · rintro V ⟨⟨x0l, x00, x01, x02, x03, x04, x05, x06, x0z⟩, ⟨x1l, x10, x11, x12, x13, x14, x15, x16, x1z⟩, -⟩
      go_simp
    try simp only [Act.put, List.getElem_toArray, List.getElem_cons_succ, List.getElem_cons_zero, List.setIfInBounds_toArray, List.set_cons_zero, List.set_cons_succ]
    refine wpAnyH_take (i := 3) (v := .int .i64 (D.w % 6)) rfl (by kernel_rfl) (by kernel_rfl) (by kernel_rfl) (fun _ _ _ h => h) (Or.inl ⟨by rfl, ?_⟩) hHeld ?_
    · rintro V ⟨⟨x0l, x00, x01, x02, x03, x04, x05, x06, x0z⟩, ⟨x1l, x10, x11, x12, x13, x14, x15, x16, x1z⟩, -⟩
      go_simp
    try simp only [Act.put, List.getElem_toArray, List.getElem_cons_succ, List.getElem_cons_zero, List.setIfInBounds_toArray, List.set_cons_zero, List.set_cons_succ]
    refine wpAnyH_take (i := 4) (v := .int .i64 (1 + D.w % 6)) rfl (by kernel_rfl) (by kernel_rfl) (by kernel_rfl) (fun _ _ _ h => h) (Or.inl ⟨by rfl, ?_⟩) hHeld ?_
    · rintro V ⟨⟨x0l, x00, x01, x02, x03, x04, x05, x06, x0z⟩, ⟨x1l, x10, x11, x12, x13, x14, x15, x16, x1z⟩, -⟩
      go_simp
    try simp only [Act.put, List.getElem_toArray, List.getElem_cons_succ, List.getElem_cons_zero, List.setIfInBounds_toArray, List.set_cons_zero, List.set_cons_succ]
    refine wpAnyH_take (i := 5) (v := .pointer (some ⟨w.heap.size, 1, none⟩)) rfl (by kernel_rfl) (by kernel_rfl) (by kernel_rfl) (fun _ _ _ h => h) (Or.inl ⟨by rfl, ?_⟩) hHeld ?_
    · rintro V ⟨⟨x0l, x00, x01, x02, x03, x04, x05, x06, x0z⟩, ⟨x1l, x10, x11, x12, x13, x14, x15, x16, x1z⟩, -⟩
      go_simp
    try simp only [Act.put, List.getElem_toArray, List.getElem_cons_succ, List.getElem_cons_zero, List.setIfInBounds_toArray, List.set_cons_zero, List.set_cons_succ]
    refine wpAnyH_take (i := 6) (v := .int .u8 D.h) rfl (by kernel_rfl) (by kernel_rfl) (by kernel_rfl) (fun _ _ _ h => h) (Or.inl ⟨by rfl, ?_⟩) hHeld ?_
    · rintro V ⟨⟨x0l, x00, x01, x02, x03, x04, x05, x06, x0z⟩, ⟨x1l, x10, x11, x12, x13, x14, x15, x16, x1z⟩, -⟩
      go_simp
    try simp only [Act.put, List.getElem_toArray, List.getElem_cons_succ, List.getElem_cons_zero, List.setIfInBounds_toArray, List.set_cons_zero, List.set_cons_succ]
    refine wpAnyH_take (i := 7) (v := .int .u8 (D.h % 6)) rfl (by kernel_rfl) (by kernel_rfl) (by kernel_rfl) (fun _ _ _ h => h) (Or.inl ⟨by rfl, ?_⟩) hHeld ?_
    · rintro V ⟨⟨x0l, x00, x01, x02, x03, x04, x05, x06, x0z⟩, ⟨x1l, x10, x11, x12, x13, x14, x15, x16, x1z⟩, -⟩
      go_simp
    try simp only [Act.put, List.getElem_toArray, List.getElem_cons_succ, List.getElem_cons_zero, List.setIfInBounds_toArray, List.set_cons_zero, List.set_cons_succ]
    refine wpAnyH_take (i := 8) (v := .int .i64 (D.h % 6)) rfl (by kernel_rfl) (by kernel_rfl) (by kernel_rfl) (fun _ _ _ h => h) (Or.inl ⟨by rfl, ?_⟩) hHeld ?_
    · rintro V ⟨⟨x0l, x00, x01, x02, x03, x04, x05, x06, x0z⟩, ⟨x1l, x10, x11, x12, x13, x14, x15, x16, x1z⟩, -⟩
      go_simp
    try simp only [Act.put, List.getElem_toArray, List.getElem_cons_succ, List.getElem_cons_zero, List.setIfInBounds_toArray, List.set_cons_zero, List.set_cons_succ]
    refine wpAnyH_take (i := 9) (v := .int .i64 (1 + D.h % 6)) rfl (by kernel_rfl) (by kernel_rfl) (by kernel_rfl) (fun _ _ _ h => h) (Or.inl ⟨by rfl, ?_⟩) hHeld ?_
    · rintro V ⟨⟨x0l, x00, x01, x02, x03, x04, x05, x06, x0z⟩, ⟨x1l, x10, x11, x12, x13, x14, x15, x16, x1z⟩, -⟩
      go_simp
    try simp only [Act.put, List.getElem_toArray, List.getElem_cons_succ, List.getElem_cons_zero, List.setIfInBounds_toArray, List.set_cons_zero, List.set_cons_succ]
    refine wpAnyH_take (i := 10) (v := .int .i64 n) rfl (by kernel_rfl) (by kernel_rfl) (by kernel_rfl) (fun _ _ _ h => h) (Or.inl ⟨by rfl, ?_⟩) hHeld ?_
    · rintro V ⟨⟨x0l, x00, x01, x02, x03, x04, x05, x06, x0z⟩, ⟨x1l, x10, x11, x12, x13, x14, x15, x16, x1z⟩, -⟩
      go_simp
    try simp only [Act.put, List.getElem_toArray, List.getElem_cons_succ, List.getElem_cons_zero, List.setIfInBounds_toArray, List.set_cons_zero, List.set_cons_succ]
    refine wpAnyH_take (i := 11) (v := .int .i64 16) rfl (by kernel_rfl) (by kernel_rfl) (by kernel_rfl) (fun _ _ _ h => h) (Or.inl ⟨by rfl, ?_⟩) hHeld ?_
    · rintro V ⟨⟨x0l, x00, x01, x02, x03, x04, x05, x06, x0z⟩, ⟨x1l, x10, x11, x12, x13, x14, x15, x16, x1z⟩, -⟩
      go_simp
    try simp only [Act.put, List.getElem_toArray, List.getElem_cons_succ, List.getElem_cons_zero, List.setIfInBounds_toArray, List.set_cons_zero, List.set_cons_succ]
    refine wpAnyH_take (i := 12) (v := .pointer (some ⟨w.heap.size, 5, none⟩)) rfl (by kernel_rfl) (by kernel_rfl) (by kernel_rfl) (fun _ _ _ h => h) (Or.inl ⟨by rfl, ?_⟩) hHeld ?_
    · rintro V ⟨⟨x0l, x00, x01, x02, x03, x04, x05, x06, x0z⟩, ⟨x1l, x10, x11, x12, x13, x14, x15, x16, x1z⟩, -⟩
      go_simp
    try simp only [Act.put, List.getElem_toArray, List.getElem_cons_succ, List.getElem_cons_zero, List.setIfInBounds_toArray, List.set_cons_zero, List.set_cons_succ]
    refine wpAnyH_take (i := 13) (v := .bool D.pl) rfl (by kernel_rfl) (by kernel_rfl) (by kernel_rfl) (fun _ _ _ h => h) (Or.inl ⟨by rfl, ?_⟩) hHeld ?_
    · rintro V ⟨⟨x0l, x00, x01, x02, x03, x04, x05, x06, x0z⟩, ⟨x1l, x10, x11, x12, x13, x14, x15, x16, x1z⟩, -⟩
      go_simp
    try simp only [Act.put, List.getElem_toArray, List.getElem_cons_succ, List.getElem_cons_zero, List.setIfInBounds_toArray, List.set_cons_zero, List.set_cons_succ]
    refine wpAnyH_take (i := 15) (v := .pointer (some ⟨w.heap.size, 3, none⟩)) rfl (by kernel_rfl) (by kernel_rfl) (by kernel_rfl) (fun _ _ _ h => h) (Or.inl ⟨by rfl, ?_⟩) hHeld ?_
    · rintro V ⟨⟨x0l, x00, x01, x02, x03, x04, x05, x06, x0z⟩, ⟨x1l, x10, x11, x12, x13, x14, x15, x16, x1z⟩, -⟩
      go_simp
    try simp only [Act.put, List.getElem_toArray, List.getElem_cons_succ, List.getElem_cons_zero, List.setIfInBounds_toArray, List.set_cons_zero, List.set_cons_succ]
    refine wpAnyH_take (i := 16) (v := .int .u8 D.p) rfl (by kernel_rfl) (by kernel_rfl) (by kernel_rfl) (fun _ _ _ h => h) (Or.inl ⟨by rfl, ?_⟩) hHeld ?_
    · rintro V ⟨⟨x0l, x00, x01, x02, x03, x04, x05, x06, x0z⟩, ⟨x1l, x10, x11, x12, x13, x14, x15, x16, x1z⟩, -⟩
      go_simp
    try simp only [Act.put, List.getElem_toArray, List.getElem_cons_succ, List.getElem_cons_zero, List.setIfInBounds_toArray, List.set_cons_zero, List.set_cons_succ]
    refine wpAnyH_take (i := 17) (v := .int .u8 (D.p % 4)) rfl (by kernel_rfl) (by kernel_rfl) (by kernel_rfl) (fun _ _ _ h => h) (Or.inl ⟨by rfl, ?_⟩) hHeld ?_
    · rintro V ⟨⟨x0l, x00, x01, x02, x03, x04, x05, x06, x0z⟩, ⟨x1l, x10, x11, x12, x13, x14, x15, x16, x1z⟩, -⟩
      go_simp
    try simp only [Act.put, List.getElem_toArray, List.getElem_cons_succ, List.getElem_cons_zero, List.setIfInBounds_toArray, List.set_cons_zero, List.set_cons_succ]
    refine wpAnyH_ready (rs := [14, 24]) (by kernel_rfl) (by simp) ?_
    refine AllReadyH.cons rfl (fun K hK => ?_) ?_
    · go_simp
      refine hK.out _ _ ⟨hHeld.1.below ((Below.refl _ _).alloc (Nat.le_refl _) _), hHeld.2.1.below ((Below.refl _ _).alloc (Nat.le_refl _) _), hHeld.2.2.alloc hHeld.2.2.size _⟩ (fun hHeld => ?_)
      clear hK
      have hXL : Ints (U0.alloc (.cells #[.int .i64 1, .int .i64 2, .int .i64 4, .int .i64 8] 3)) (some ⟨U0.heap.size, 0, none⟩) [1, 2, 4, 8] := fun _ => ⟨_, _, rfl, fun i hi => by
        have : i = 0 ∨ i = 1 ∨ i = 2 ∨ i = 3 := by simp at hi; omega
        rcases this with rfl | rfl | rfl | rfl <;> go_simp⟩
      refine wpAnyH_gen ?_
      intro U1 hU
      have hM0 : HasDr U1 w.heap.size ⟨D.w, D.h, D.c, D.p, true, D.pl, D.vs⟩ a cap := by rw [hU]; exact hHeld.1
      have hM1 : HasIm U1 (w.heap.size + 1) ⟨⟨0, 0, 0, 0, false, 0⟩, ⟨#[]⟩⟩ := by rw [hU]; exact hHeld.2.1
      have hKB : Below w.heap.size w U1 := by rw [hU]; exact hHeld.2.2
      have hXL : Ints U1 (some ⟨U0.heap.size, 0, none⟩) [1, 2, 4, 8] := by rw [hU]; exact hXL
      replace hHeld : HasDr U1 w.heap.size ⟨D.w, D.h, D.c, D.p, true, D.pl, D.vs⟩ a cap ∧ HasIm U1 (w.heap.size + 1) ⟨⟨0, 0, 0, 0, false, 0⟩, ⟨#[]⟩⟩ ∧ Below w.heap.size w U1 := ⟨hM0, hM1, hKB⟩
      clear hU
      refine wpAnyH_ready (rs := [18, 24]) (by kernel_rfl) (by simp) ?_
      refine AllReadyH.cons rfl (fun K hK => ?_) ?_
      · go_simp
        refine hK.out _ _ hHeld (fun hHeld => ?_)
        clear hK
        refine wpAnyH_ready (rs := [19, 24]) (by kernel_rfl) (by simp) ?_
        refine AllReadyH.cons rfl (fun K hK => ?_) ?_
        · obtain ⟨lb, lo, lx, le, lc, lX⟩ := hXL.at (k := (D.p % 4).toNat) (by simp; omega)
          cases le
          have lX' := lX.out
          have lpad := padOf_at D.p a5
          rw [lX', Option.getD_some] at lpad
          rw [lpad, Nat.zero_add] at lc
          clear lX lX' lpad
          go_simp
          refine hK.out _ _ hHeld (fun hHeld => ?_)
          clear hK
          refine wpAnyH_ready (rs := [20, 24]) (by kernel_rfl) (by simp) ?_
          refine AllReadyH.cons rfl (fun K hK => ?_) ?_
          · go_simp
            (with_reducible refine calls_gen ?_)
            intro U2 hU
            have hM0 : HasDr U2 w.heap.size ⟨D.w, D.h, D.c, D.p, true, D.pl, D.vs⟩ a cap := by rw [hU]; exact hHeld.1
            have hM1 : HasIm U2 (w.heap.size + 1) ⟨⟨0, 0, 0, 0, false, 0⟩, ⟨#[]⟩⟩ := by rw [hU]; exact hHeld.2.1
            have hKB : Below w.heap.size w U2 := by rw [hU]; exact hHeld.2.2
            have hXL : Ints U2 (some ⟨U0.heap.size, 0, none⟩) [1, 2, 4, 8] := by rw [hU]; exact hXL
            (with_reducible refine (HMK.out U2).mono ?_)
            rintro e N2 ⟨rfl, hb⟩
            replace hXL := hXL.below hb
            refine hK.out _ _ ⟨hM0.below hb, hM1.below hb, hKB.trans (hb.mono hKB.size)⟩ (fun hHeld => ?_)
            clear hK
            refine wpAnyH_take (i := 21) (v := .tuple #[imgV (1 + D.w % 6) (1 + D.h % 6) n 16 D.pl (padOf D.p) O0, .int .i64 0]) rfl (by kernel_rfl) (by kernel_rfl) (by kernel_rfl) (fun _ _ _ h => h) (Or.inl ⟨by rfl, ?_⟩) hHeld ?_
            · rintro V ⟨⟨x0l, x00, x01, x02, x03, x04, x05, x06, x0z⟩, ⟨x1l, x10, x11, x12, x13, x14, x15, x16, x1z⟩, -⟩
              go_simp
            try simp only [Act.put, List.getElem_toArray, List.getElem_cons_succ, List.getElem_cons_zero, List.setIfInBounds_toArray, List.set_cons_zero, List.set_cons_succ]
            refine wpAnyH_take (i := 22) (v := imgV (1 + D.w % 6) (1 + D.h % 6) n 16 D.pl (padOf D.p) O0) rfl (by kernel_rfl) (by kernel_rfl) (by kernel_rfl) (fun _ _ _ h => h) (Or.inl ⟨by rfl, ?_⟩) hHeld ?_
            · rintro V ⟨⟨x0l, x00, x01, x02, x03, x04, x05, x06, x0z⟩, ⟨x1l, x10, x11, x12, x13, x14, x15, x16, x1z⟩, -⟩
              go_simp
            try simp only [Act.put, List.getElem_toArray, List.getElem_cons_succ, List.getElem_cons_zero, List.setIfInBounds_toArray, List.set_cons_zero, List.set_cons_succ]
            refine wpAnyH_take (i := 23) (v := .int .i64 0) rfl (by kernel_rfl) (by kernel_rfl) (by kernel_rfl) (fun _ _ _ h => h) (Or.inl ⟨by rfl, ?_⟩) hHeld ?_
            · rintro V ⟨⟨x0l, x00, x01, x02, x03, x04, x05, x06, x0z⟩, ⟨x1l, x10, x11, x12, x13, x14, x15, x16, x1z⟩, -⟩
              go_simp
            try simp only [Act.put, List.getElem_toArray, List.getElem_cons_succ, List.getElem_cons_zero, List.setIfInBounds_toArray, List.set_cons_zero, List.set_cons_succ]
            refine wpAnyH_ready (rs := [24]) (by kernel_rfl) (by simp) ?_
            refine AllReadyH.cons rfl (fun K hK => ?_) AllReadyH.nil
            go_simp
            have hgtT0 : w.heap.size < N2.heap.size := hHeld.1.lt
            have hneT0 : w.heap.size ≠ N2.heap.size := Nat.ne_of_lt hHeld.1.lt
            have hgtT1 : (w.heap.size + 1) < N2.heap.size := hHeld.2.1.lt
            have hneT1 : (w.heap.size + 1) ≠ N2.heap.size := Nat.ne_of_lt hHeld.2.1.lt
            have hleT : w.heap.size ≤ N2.heap.size := hHeld.2.2.size
            replace hXL := hXL.below ((Below.refl N2.heap.size N2).alloc (Nat.le_refl _) (.cells #[.int .i64 0, .int .i64 0, .int .i64 0, .int .i64 0, .bool false, .int .i64 0, .string ⟨#[]⟩] 31))
            refine hK.out _ _ ⟨hHeld.1.below ((Below.refl _ _).alloc (Nat.le_refl _) _), hHeld.2.1.below ((Below.refl _ _).alloc (Nat.le_refl _) _), hHeld.2.2.alloc hHeld.2.2.size _⟩ (fun hHeld => ?_)
            clear hK
            have hXT : HasIm (N2.alloc (.cells #[.int .i64 0, .int .i64 0, .int .i64 0, .int .i64 0, .bool false, .int .i64 0, .string ⟨#[]⟩] 31)) N2.heap.size ⟨⟨0, 0, 0, 0, false, 0⟩, ⟨#[]⟩⟩ := ⟨by go_simp, by go_simp, by go_simp, by go_simp, by go_simp, by go_simp, by go_simp, by go_simp, fun o => by go_simp⟩
            refine wpAnyH_gen ?_
            intro U3 hU
            have hM0 : HasDr U3 w.heap.size ⟨D.w, D.h, D.c, D.p, true, D.pl, D.vs⟩ a cap := by rw [hU]; exact hHeld.1
            have hM1 : HasIm U3 (w.heap.size + 1) ⟨⟨0, 0, 0, 0, false, 0⟩, ⟨#[]⟩⟩ := by rw [hU]; exact hHeld.2.1
            have hKB : Below w.heap.size w U3 := by rw [hU]; exact hHeld.2.2
            have hXL : Ints U3 (some ⟨U0.heap.size, 0, none⟩) [1, 2, 4, 8] := by rw [hU]; exact hXL
            have hXT : HasIm U3 N2.heap.size ⟨⟨0, 0, 0, 0, false, 0⟩, ⟨#[]⟩⟩ := by rw [hU]; exact hXT
            replace hHeld : HasDr U3 w.heap.size ⟨D.w, D.h, D.c, D.p, true, D.pl, D.vs⟩ a cap ∧ HasIm U3 (w.heap.size + 1) ⟨⟨0, 0, 0, 0, false, 0⟩, ⟨#[]⟩⟩ ∧ Below w.heap.size w U3 := ⟨hM0, hM1, hKB⟩
            clear hU
            refine wpAnyH_ready (rs := [25]) (by kernel_rfl) (by simp) ?_
            refine AllReadyH.cons rfl (fun K hK => ?_) AllReadyH.nil
            obtain ⟨oXl, oX0, oX1, oX2, oX3, oX4, oX5, oX6, oXz⟩ := hXT
            try dsimp only at oX0 oX1 oX2 oX3 oX4 oX5 oX6
            go_simp
            refine hK.out _ _ ⟨(((((((hHeld.1.set_other hneT0 _).set_other hneT0 _).set_other hneT0 _).set_other hneT0 _).set_other hneT0 _).set_other hneT0 _).set_other hneT0 _), (((((((hHeld.2.1.set_other hneT1 _).set_other hneT1 _).set_other hneT1 _).set_other hneT1 _).set_other hneT1 _).set_other hneT1 _).set_other hneT1 _), (((((((hHeld.2.2.setCell hleT _).setCell hleT _).setCell hleT _).setCell hleT _).setCell hleT _).setCell hleT _).setCell hleT _)⟩ (fun hHeld => ?_)
            clear hK
            refine wpAnyH_gen ?_
            intro U4 hU
            have hXT : HasIm U4 N2.heap.size ⟨⟨1 + D.w % 6, 1 + D.h % 6, n, 16, D.pl, padOf D.p⟩, O0⟩ := ⟨by rw [hU]; go_simp, by rw [hU]; go_simp, by rw [hU]; go_simp, by rw [hU]; go_simp, by rw [hU]; go_simp, by rw [hU]; go_simp, by rw [hU]; go_simp, by rw [hU]; go_simp, fun o => by rw [hU]; go_simp⟩
            have hM0 : HasDr U4 w.heap.size ⟨D.w, D.h, D.c, D.p, true, D.pl, D.vs⟩ a cap := by rw [hU]; exact hHeld.1
            have hM1 : HasIm U4 (w.heap.size + 1) ⟨⟨0, 0, 0, 0, false, 0⟩, ⟨#[]⟩⟩ := by rw [hU]; exact hHeld.2.1
            have hKB : Below w.heap.size w U4 := by rw [hU]; exact hHeld.2.2
            replace hHeld : HasDr U4 w.heap.size ⟨D.w, D.h, D.c, D.p, true, D.pl, D.vs⟩ a cap ∧ HasIm U4 (w.heap.size + 1) ⟨⟨0, 0, 0, 0, false, 0⟩, ⟨#[]⟩⟩ ∧ Below w.heap.size w U4 := ⟨hM0, hM1, hKB⟩
            clear hU
            refine wpAnyH_take (i := 26) (v := .int .i64 0) rfl (by kernel_rfl) (by kernel_rfl) (by kernel_rfl) (fun _ _ _ h => h) (Or.inl ⟨by rfl, ?_⟩) hHeld ?_
            · rintro V ⟨⟨x0l, x00, x01, x02, x03, x04, x05, x06, x0z⟩, ⟨x1l, x10, x11, x12, x13, x14, x15, x16, x1z⟩, -⟩
              go_simp
            try simp only [Act.put, List.getElem_toArray, List.getElem_cons_succ, List.getElem_cons_zero, List.setIfInBounds_toArray, List.set_cons_zero, List.set_cons_succ]
            refine wpAnyH_done (by kernel_rfl) ?_ _
            try simp only [Act.put, List.getElem_toArray, List.getElem_cons_succ, List.getElem_cons_zero, List.setIfInBounds_toArray, List.set_cons_zero, List.set_cons_succ]
            go_wp2_with fail
            go_meet
            exact ⟨N2.heap.size, rfl, hgtT1, hXT, hHeld.1, hHeld.2.1, hHeld.2.2⟩
          refine AllReadyH.cons rfl (fun K hK => ?_) AllReadyH.nil
          go_simp
          have hgtT0 : w.heap.size < U1.heap.size := hHeld.1.lt
          have hneT0 : w.heap.size ≠ U1.heap.size := Nat.ne_of_lt hHeld.1.lt
          have hgtT1 : (w.heap.size + 1) < U1.heap.size := hHeld.2.1.lt
          have hneT1 : (w.heap.size + 1) ≠ U1.heap.size := Nat.ne_of_lt hHeld.2.1.lt
          have hleT : w.heap.size ≤ U1.heap.size := hHeld.2.2.size
          replace hXL := hXL.below ((Below.refl U1.heap.size U1).alloc (Nat.le_refl _) (.cells #[.int .i64 0, .int .i64 0, .int .i64 0, .int .i64 0, .bool false, .int .i64 0, .string ⟨#[]⟩] 31))
          refine hK.out _ _ ⟨hHeld.1.below ((Below.refl _ _).alloc (Nat.le_refl _) _), hHeld.2.1.below ((Below.refl _ _).alloc (Nat.le_refl _) _), hHeld.2.2.alloc hHeld.2.2.size _⟩ (fun hHeld => ?_)
          clear hK
          have hXT : HasIm (U1.alloc (.cells #[.int .i64 0, .int .i64 0, .int .i64 0, .int .i64 0, .bool false, .int .i64 0, .string ⟨#[]⟩] 31)) U1.heap.size ⟨⟨0, 0, 0, 0, false, 0⟩, ⟨#[]⟩⟩ := ⟨by go_simp, by go_simp, by go_simp, by go_simp, by go_simp, by go_simp, by go_simp, by go_simp, fun o => by go_simp⟩
          refine wpAnyH_gen ?_
          intro U5 hU
          have hM0 : HasDr U5 w.heap.size ⟨D.w, D.h, D.c, D.p, true, D.pl, D.vs⟩ a cap := by rw [hU]; exact hHeld.1
          have hM1 : HasIm U5 (w.heap.size + 1) ⟨⟨0, 0, 0, 0, false, 0⟩, ⟨#[]⟩⟩ := by rw [hU]; exact hHeld.2.1
          have hKB : Below w.heap.size w U5 := by rw [hU]; exact hHeld.2.2
          have hXL : Ints U5 (some ⟨U0.heap.size, 0, none⟩) [1, 2, 4, 8] := by rw [hU]; exact hXL
          have hXT : HasIm U5 U1.heap.size ⟨⟨0, 0, 0, 0, false, 0⟩, ⟨#[]⟩⟩ := by rw [hU]; exact hXT
          replace hHeld : HasDr U5 w.heap.size ⟨D.w, D.h, D.c, D.p, true, D.pl, D.vs⟩ a cap ∧ HasIm U5 (w.heap.size + 1) ⟨⟨0, 0, 0, 0, false, 0⟩, ⟨#[]⟩⟩ ∧ Below w.heap.size w U5 := ⟨hM0, hM1, hKB⟩
          clear hU
          refine wpAnyH_ready (rs := [20]) (by kernel_rfl) (by simp) ?_
          refine AllReadyH.cons rfl (fun K hK => ?_) AllReadyH.nil
          go_simp
          (with_reducible refine calls_gen ?_)
          intro U6 hU
          have hM0 : HasDr U6 w.heap.size ⟨D.w, D.h, D.c, D.p, true, D.pl, D.vs⟩ a cap := by rw [hU]; exact hHeld.1
          have hM1 : HasIm U6 (w.heap.size + 1) ⟨⟨0, 0, 0, 0, false, 0⟩, ⟨#[]⟩⟩ := by rw [hU]; exact hHeld.2.1
          have hKB : Below w.heap.size w U6 := by rw [hU]; exact hHeld.2.2
          have hXL : Ints U6 (some ⟨U0.heap.size, 0, none⟩) [1, 2, 4, 8] := by rw [hU]; exact hXL
          have hXT : HasIm U6 U1.heap.size ⟨⟨0, 0, 0, 0, false, 0⟩, ⟨#[]⟩⟩ := by rw [hU]; exact hXT
          (with_reducible refine (HMK.out U6).mono ?_)
          rintro e N6 ⟨rfl, hb⟩
          replace hXL := hXL.below hb
          replace hXT := hXT.below hb
          refine hK.out _ _ ⟨hM0.below hb, hM1.below hb, hKB.trans (hb.mono hKB.size)⟩ (fun hHeld => ?_)
          clear hK
          refine wpAnyH_take (i := 21) (v := .tuple #[imgV (1 + D.w % 6) (1 + D.h % 6) n 16 D.pl (padOf D.p) O0, .int .i64 0]) rfl (by kernel_rfl) (by kernel_rfl) (by kernel_rfl) (fun _ _ _ h => h) (Or.inl ⟨by rfl, ?_⟩) hHeld ?_
          · rintro V ⟨⟨x0l, x00, x01, x02, x03, x04, x05, x06, x0z⟩, ⟨x1l, x10, x11, x12, x13, x14, x15, x16, x1z⟩, -⟩
            go_simp
          try simp only [Act.put, List.getElem_toArray, List.getElem_cons_succ, List.getElem_cons_zero, List.setIfInBounds_toArray, List.set_cons_zero, List.set_cons_succ]
          refine wpAnyH_take (i := 22) (v := imgV (1 + D.w % 6) (1 + D.h % 6) n 16 D.pl (padOf D.p) O0) rfl (by kernel_rfl) (by kernel_rfl) (by kernel_rfl) (fun _ _ _ h => h) (Or.inl ⟨by rfl, ?_⟩) hHeld ?_
          · rintro V ⟨⟨x0l, x00, x01, x02, x03, x04, x05, x06, x0z⟩, ⟨x1l, x10, x11, x12, x13, x14, x15, x16, x1z⟩, -⟩
            go_simp
          try simp only [Act.put, List.getElem_toArray, List.getElem_cons_succ, List.getElem_cons_zero, List.setIfInBounds_toArray, List.set_cons_zero, List.set_cons_succ]
          refine wpAnyH_take (i := 23) (v := .int .i64 0) rfl (by kernel_rfl) (by kernel_rfl) (by kernel_rfl) (fun _ _ _ h => h) (Or.inl ⟨by rfl, ?_⟩) hHeld ?_
          · rintro V ⟨⟨x0l, x00, x01, x02, x03, x04, x05, x06, x0z⟩, ⟨x1l, x10, x11, x12, x13, x14, x15, x16, x1z⟩, -⟩
            go_simp
          try simp only [Act.put, List.getElem_toArray, List.getElem_cons_succ, List.getElem_cons_zero, List.setIfInBounds_toArray, List.set_cons_zero, List.set_cons_succ]
          refine wpAnyH_ready (rs := [25]) (by kernel_rfl) (by simp) ?_
          refine AllReadyH.cons rfl (fun K hK => ?_) AllReadyH.nil
          obtain ⟨oXl, oX0, oX1, oX2, oX3, oX4, oX5, oX6, oXz⟩ := hXT
          try dsimp only at oX0 oX1 oX2 oX3 oX4 oX5 oX6
          go_simp
          refine hK.out _ _ ⟨(((((((hHeld.1.set_other hneT0 _).set_other hneT0 _).set_other hneT0 _).set_other hneT0 _).set_other hneT0 _).set_other hneT0 _).set_other hneT0 _), (((((((hHeld.2.1.set_other hneT1 _).set_other hneT1 _).set_other hneT1 _).set_other hneT1 _).set_other hneT1 _).set_other hneT1 _).set_other hneT1 _), (((((((hHeld.2.2.setCell hleT _).setCell hleT _).setCell hleT _).setCell hleT _).setCell hleT _).setCell hleT _).setCell hleT _)⟩ (fun hHeld => ?_)
          clear hK
          refine wpAnyH_gen ?_
          intro U7 hU
          have hXT : HasIm U7 U1.heap.size ⟨⟨1 + D.w % 6, 1 + D.h % 6, n, 16, D.pl, padOf D.p⟩, O0⟩ := ⟨by rw [hU]; go_simp, by rw [hU]; go_simp, by rw [hU]; go_simp, by rw [hU]; go_simp, by rw [hU]; go_simp, by rw [hU]; go_simp, by rw [hU]; go_simp, by rw [hU]; go_simp, fun o => by rw [hU]; go_simp⟩
          have hM0 : HasDr U7 w.heap.size ⟨D.w, D.h, D.c, D.p, true, D.pl, D.vs⟩ a cap := by rw [hU]; exact hHeld.1
          have hM1 : HasIm U7 (w.heap.size + 1) ⟨⟨0, 0, 0, 0, false, 0⟩, ⟨#[]⟩⟩ := by rw [hU]; exact hHeld.2.1
          have hKB : Below w.heap.size w U7 := by rw [hU]; exact hHeld.2.2
          replace hHeld : HasDr U7 w.heap.size ⟨D.w, D.h, D.c, D.p, true, D.pl, D.vs⟩ a cap ∧ HasIm U7 (w.heap.size + 1) ⟨⟨0, 0, 0, 0, false, 0⟩, ⟨#[]⟩⟩ ∧ Below w.heap.size w U7 := ⟨hM0, hM1, hKB⟩
          clear hU
          refine wpAnyH_take (i := 26) (v := .int .i64 0) rfl (by kernel_rfl) (by kernel_rfl) (by kernel_rfl) (fun _ _ _ h => h) (Or.inl ⟨by rfl, ?_⟩) hHeld ?_
          · rintro V ⟨⟨x0l, x00, x01, x02, x03, x04, x05, x06, x0z⟩, ⟨x1l, x10, x11, x12, x13, x14, x15, x16, x1z⟩, -⟩
            go_simp
          try simp only [Act.put, List.getElem_toArray, List.getElem_cons_succ, List.getElem_cons_zero, List.setIfInBounds_toArray, List.set_cons_zero, List.set_cons_succ]
          refine wpAnyH_done (by kernel_rfl) ?_ _
          try simp only [Act.put, List.getElem_toArray, List.getElem_cons_succ, List.getElem_cons_zero, List.setIfInBounds_toArray, List.set_cons_zero, List.set_cons_succ]
          go_wp2_with fail
          go_meet
          exact ⟨U1.heap.size, rfl, hgtT1, hXT, hHeld.1, hHeld.2.1, hHeld.2.2⟩
        refine AllReadyH.cons rfl (fun K hK => ?_) AllReadyH.nil
        go_simp
        have hgtT0 : w.heap.size < U1.heap.size := hHeld.1.lt
        have hneT0 : w.heap.size ≠ U1.heap.size := Nat.ne_of_lt hHeld.1.lt
        have hgtT1 : (w.heap.size + 1) < U1.heap.size := hHeld.2.1.lt
        have hneT1 : (w.heap.size + 1) ≠ U1.heap.size := Nat.ne_of_lt hHeld.2.1.lt
        have hleT : w.heap.size ≤ U1.heap.size := hHeld.2.2.size
        replace hXL := hXL.below ((Below.refl U1.heap.size U1).alloc (Nat.le_refl _) (.cells #[.int .i64 0, .int .i64 0, .int .i64 0, .int .i64 0, .bool false, .int .i64 0, .string ⟨#[]⟩] 31))
        refine hK.out _ _ ⟨hHeld.1.below ((Below.refl _ _).alloc (Nat.le_refl _) _), hHeld.2.1.below ((Below.refl _ _).alloc (Nat.le_refl _) _), hHeld.2.2.alloc hHeld.2.2.size _⟩ (fun hHeld => ?_)
        clear hK
        have hXT : HasIm (U1.alloc (.cells #[.int .i64 0, .int .i64 0, .int .i64 0, .int .i64 0, .bool false, .int .i64 0, .string ⟨#[]⟩] 31)) U1.heap.size ⟨⟨0, 0, 0, 0, false, 0⟩, ⟨#[]⟩⟩ := ⟨by go_simp, by go_simp, by go_simp, by go_simp, by go_simp, by go_simp, by go_simp, by go_simp, fun o => by go_simp⟩
        refine wpAnyH_gen ?_
        intro U8 hU
        have hM0 : HasDr U8 w.heap.size ⟨D.w, D.h, D.c, D.p, true, D.pl, D.vs⟩ a cap := by rw [hU]; exact hHeld.1
        have hM1 : HasIm U8 (w.heap.size + 1) ⟨⟨0, 0, 0, 0, false, 0⟩, ⟨#[]⟩⟩ := by rw [hU]; exact hHeld.2.1
        have hKB : Below w.heap.size w U8 := by rw [hU]; exact hHeld.2.2
        have hXL : Ints U8 (some ⟨U0.heap.size, 0, none⟩) [1, 2, 4, 8] := by rw [hU]; exact hXL
        have hXT : HasIm U8 U1.heap.size ⟨⟨0, 0, 0, 0, false, 0⟩, ⟨#[]⟩⟩ := by rw [hU]; exact hXT
        replace hHeld : HasDr U8 w.heap.size ⟨D.w, D.h, D.c, D.p, true, D.pl, D.vs⟩ a cap ∧ HasIm U8 (w.heap.size + 1) ⟨⟨0, 0, 0, 0, false, 0⟩, ⟨#[]⟩⟩ ∧ Below w.heap.size w U8 := ⟨hM0, hM1, hKB⟩
        clear hU
        refine wpAnyH_ready (rs := [19]) (by kernel_rfl) (by simp) ?_
        refine AllReadyH.cons rfl (fun K hK => ?_) AllReadyH.nil
        obtain ⟨lb, lo, lx, le, lc, lX⟩ := hXL.at (k := (D.p % 4).toNat) (by simp; omega)
        cases le
        have lX' := lX.out
        have lpad := padOf_at D.p a5
        rw [lX', Option.getD_some] at lpad
        rw [lpad, Nat.zero_add] at lc
        clear lX lX' lpad
        go_simp
        refine hK.out _ _ hHeld (fun hHeld => ?_)
        clear hK
        refine wpAnyH_ready (rs := [20]) (by kernel_rfl) (by simp) ?_
        refine AllReadyH.cons rfl (fun K hK => ?_) AllReadyH.nil
        go_simp
        (with_reducible refine calls_gen ?_)
        intro U9 hU
        have hM0 : HasDr U9 w.heap.size ⟨D.w, D.h, D.c, D.p, true, D.pl, D.vs⟩ a cap := by rw [hU]; exact hHeld.1
        have hM1 : HasIm U9 (w.heap.size + 1) ⟨⟨0, 0, 0, 0, false, 0⟩, ⟨#[]⟩⟩ := by rw [hU]; exact hHeld.2.1
        have hKB : Below w.heap.size w U9 := by rw [hU]; exact hHeld.2.2
        have hXL : Ints U9 (some ⟨U0.heap.size, 0, none⟩) [1, 2, 4, 8] := by rw [hU]; exact hXL
        have hXT : HasIm U9 U1.heap.size ⟨⟨0, 0, 0, 0, false, 0⟩, ⟨#[]⟩⟩ := by rw [hU]; exact hXT
        (with_reducible refine (HMK.out U9).mono ?_)
        rintro e N9 ⟨rfl, hb⟩
        replace hXL := hXL.below hb
        replace hXT := hXT.below hb
        refine hK.out _ _ ⟨hM0.below hb, hM1.below hb, hKB.trans (hb.mono hKB.size)⟩ (fun hHeld => ?_)
        clear hK
        refine wpAnyH_take (i := 21) (v := .tuple #[imgV (1 + D.w % 6) (1 + D.h % 6) n 16 D.pl (padOf D.p) O0, .int .i64 0]) rfl (by kernel_rfl) (by kernel_rfl) (by kernel_rfl) (fun _ _ _ h => h) (Or.inl ⟨by rfl, ?_⟩) hHeld ?_
        · rintro V ⟨⟨x0l, x00, x01, x02, x03, x04, x05, x06, x0z⟩, ⟨x1l, x10, x11, x12, x13, x14, x15, x16, x1z⟩, -⟩
          go_simp
        try simp only [Act.put, List.getElem_toArray, List.getElem_cons_succ, List.getElem_cons_zero, List.setIfInBounds_toArray, List.set_cons_zero, List.set_cons_succ]
        refine wpAnyH_take (i := 22) (v := imgV (1 + D.w % 6) (1 + D.h % 6) n 16 D.pl (padOf D.p) O0) rfl (by kernel_rfl) (by kernel_rfl) (by kernel_rfl) (fun _ _ _ h => h) (Or.inl ⟨by rfl, ?_⟩) hHeld ?_
        · rintro V ⟨⟨x0l, x00, x01, x02, x03, x04, x05, x06, x0z⟩, ⟨x1l, x10, x11, x12, x13, x14, x15, x16, x1z⟩, -⟩
          go_simp
        try simp only [Act.put, List.getElem_toArray, List.getElem_cons_succ, List.getElem_cons_zero, List.setIfInBounds_toArray, List.set_cons_zero, List.set_cons_succ]
        refine wpAnyH_take (i := 23) (v := .int .i64 0) rfl (by kernel_rfl) (by kernel_rfl) (by kernel_rfl) (fun _ _ _ h => h) (Or.inl ⟨by rfl, ?_⟩) hHeld ?_
        · rintro V ⟨⟨x0l, x00, x01, x02, x03, x04, x05, x06, x0z⟩, ⟨x1l, x10, x11, x12, x13, x14, x15, x16, x1z⟩, -⟩
          go_simp
        try simp only [Act.put, List.getElem_toArray, List.getElem_cons_succ, List.getElem_cons_zero, List.setIfInBounds_toArray, List.set_cons_zero, List.set_cons_succ]
        refine wpAnyH_ready (rs := [25]) (by kernel_rfl) (by simp) ?_
        refine AllReadyH.cons rfl (fun K hK => ?_) AllReadyH.nil
        obtain ⟨oXl, oX0, oX1, oX2, oX3, oX4, oX5, oX6, oXz⟩ := hXT
        try dsimp only at oX0 oX1 oX2 oX3 oX4 oX5 oX6
        go_simp
        refine hK.out _ _ ⟨(((((((hHeld.1.set_other hneT0 _).set_other hneT0 _).set_other hneT0 _).set_other hneT0 _).set_other hneT0 _).set_other hneT0 _).set_other hneT0 _), (((((((hHeld.2.1.set_other hneT1 _).set_other hneT1 _).set_other hneT1 _).set_other hneT1 _).set_other hneT1 _).set_other hneT1 _).set_other hneT1 _), (((((((hHeld.2.2.setCell hleT _).setCell hleT _).setCell hleT _).setCell hleT _).setCell hleT _).setCell hleT _).setCell hleT _)⟩ (fun hHeld => ?_)
        clear hK
        refine wpAnyH_gen ?_
        intro U10 hU
        have hXT : HasIm U10 U1.heap.size ⟨⟨1 + D.w % 6, 1 + D.h % 6, n, 16, D.pl, padOf D.p⟩, O0⟩ := ⟨by rw [hU]; go_simp, by rw [hU]; go_simp, by rw [hU]; go_simp, by rw [hU]; go_simp, by rw [hU]; go_simp, by rw [hU]; go_simp, by rw [hU]; go_simp, by rw [hU]; go_simp, fun o => by rw [hU]; go_simp⟩
        have hM0 : HasDr U10 w.heap.size ⟨D.w, D.h, D.c, D.p, true, D.pl, D.vs⟩ a cap := by rw [hU]; exact hHeld.1
        have hM1 : HasIm U10 (w.heap.size + 1) ⟨⟨0, 0, 0, 0, false, 0⟩, ⟨#[]⟩⟩ := by rw [hU]; exact hHeld.2.1
        have hKB : Below w.heap.size w U10 := by rw [hU]; exact hHeld.2.2
        replace hHeld : HasDr U10 w.heap.size ⟨D.w, D.h, D.c, D.p, true, D.pl, D.vs⟩ a cap ∧ HasIm U10 (w.heap.size + 1) ⟨⟨0, 0, 0, 0, false, 0⟩, ⟨#[]⟩⟩ ∧ Below w.heap.size w U10 := ⟨hM0, hM1, hKB⟩
        clear hU
        refine wpAnyH_take (i := 26) (v := .int .i64 0) rfl (by kernel_rfl) (by kernel_rfl) (by kernel_rfl) (fun _ _ _ h => h) (Or.inl ⟨by rfl, ?_⟩) hHeld ?_
        · rintro V ⟨⟨x0l, x00, x01, x02, x03, x04, x05, x06, x0z⟩, ⟨x1l, x10, x11, x12, x13, x14, x15, x16, x1z⟩, -⟩
          go_simp
        try simp only [Act.put, List.getElem_toArray, List.getElem_cons_succ, List.getElem_cons_zero, List.setIfInBounds_toArray, List.set_cons_zero, List.set_cons_succ]
        refine wpAnyH_done (by kernel_rfl) ?_ _
        try simp only [Act.put, List.getElem_toArray, List.getElem_cons_succ, List.getElem_cons_zero, List.setIfInBounds_toArray, List.set_cons_zero, List.set_cons_succ]
        go_wp2_with fail
        go_meet
        exact ⟨U1.heap.size, rfl, hgtT1, hXT, hHeld.1, hHeld.2.1, hHeld.2.2⟩
      refine AllReadyH.cons rfl (fun K hK => ?_) AllReadyH.nil
      go_simp
      have hgtT0 : w.heap.size < U1.heap.size := hHeld.1.lt
      have hneT0 : w.heap.size ≠ U1.heap.size := Nat.ne_of_lt hHeld.1.lt
      have hgtT1 : (w.heap.size + 1) < U1.heap.size := hHeld.2.1.lt
      have hneT1 : (w.heap.size + 1) ≠ U1.heap.size := Nat.ne_of_lt hHeld.2.1.lt
      have hleT : w.heap.size ≤ U1.heap.size := hHeld.2.2.size
      replace hXL := hXL.below ((Below.refl U1.heap.size U1).alloc (Nat.le_refl _) (.cells #[.int .i64 0, .int .i64 0, .int .i64 0, .int .i64 0, .bool false, .int .i64 0, .string ⟨#[]⟩] 31))
      refine hK.out _ _ ⟨hHeld.1.below ((Below.refl _ _).alloc (Nat.le_refl _) _), hHeld.2.1.below ((Below.refl _ _).alloc (Nat.le_refl _) _), hHeld.2.2.alloc hHeld.2.2.size _⟩ (fun hHeld => ?_)
      clear hK
      have hXT : HasIm (U1.alloc (.cells #[.int .i64 0, .int .i64 0, .int .i64 0, .int .i64 0, .bool false, .int .i64 0, .string ⟨#[]⟩] 31)) U1.heap.size ⟨⟨0, 0, 0, 0, false, 0⟩, ⟨#[]⟩⟩ := ⟨by go_simp, by go_simp, by go_simp, by go_simp, by go_simp, by go_simp, by go_simp, by go_simp, fun o => by go_simp⟩
      refine wpAnyH_gen ?_
      intro U11 hU
      have hM0 : HasDr U11 w.heap.size ⟨D.w, D.h, D.c, D.p, true, D.pl, D.vs⟩ a cap := by rw [hU]; exact hHeld.1
      have hM1 : HasIm U11 (w.heap.size + 1) ⟨⟨0, 0, 0, 0, false, 0⟩, ⟨#[]⟩⟩ := by rw [hU]; exact hHeld.2.1
      have hKB : Below w.heap.size w U11 := by rw [hU]; exact hHeld.2.2
      have hXL : Ints U11 (some ⟨U0.heap.size, 0, none⟩) [1, 2, 4, 8] := by rw [hU]; exact hXL
      have hXT : HasIm U11 U1.heap.size ⟨⟨0, 0, 0, 0, false, 0⟩, ⟨#[]⟩⟩ := by rw [hU]; exact hXT
      replace hHeld : HasDr U11 w.heap.size ⟨D.w, D.h, D.c, D.p, true, D.pl, D.vs⟩ a cap ∧ HasIm U11 (w.heap.size + 1) ⟨⟨0, 0, 0, 0, false, 0⟩, ⟨#[]⟩⟩ ∧ Below w.heap.size w U11 := ⟨hM0, hM1, hKB⟩
      clear hU
      refine wpAnyH_ready (rs := [18]) (by kernel_rfl) (by simp) ?_
      refine AllReadyH.cons rfl (fun K hK => ?_) AllReadyH.nil
      go_simp
      refine hK.out _ _ hHeld (fun hHeld => ?_)
      clear hK
      refine wpAnyH_ready (rs := [19]) (by kernel_rfl) (by simp) ?_
      refine AllReadyH.cons rfl (fun K hK => ?_) AllReadyH.nil
      obtain ⟨lb, lo, lx, le, lc, lX⟩ := hXL.at (k := (D.p % 4).toNat) (by simp; omega)
      cases le
      have lX' := lX.out
      have lpad := padOf_at D.p a5
      rw [lX', Option.getD_some] at lpad
      rw [lpad, Nat.zero_add] at lc
      clear lX lX' lpad
      go_simp
      refine hK.out _ _ hHeld (fun hHeld => ?_)
      clear hK
      refine wpAnyH_ready (rs := [20]) (by kernel_rfl) (by simp) ?_
      refine AllReadyH.cons rfl (fun K hK => ?_) AllReadyH.nil
      go_simp
      (with_reducible refine calls_gen ?_)
      intro U12 hU
      have hM0 : HasDr U12 w.heap.size ⟨D.w, D.h, D.c, D.p, true, D.pl, D.vs⟩ a cap := by rw [hU]; exact hHeld.1
      have hM1 : HasIm U12 (w.heap.size + 1) ⟨⟨0, 0, 0, 0, false, 0⟩, ⟨#[]⟩⟩ := by rw [hU]; exact hHeld.2.1
      have hKB : Below w.heap.size w U12 := by rw [hU]; exact hHeld.2.2
      have hXL : Ints U12 (some ⟨U0.heap.size, 0, none⟩) [1, 2, 4, 8] := by rw [hU]; exact hXL
      have hXT : HasIm U12 U1.heap.size ⟨⟨0, 0, 0, 0, false, 0⟩, ⟨#[]⟩⟩ := by rw [hU]; exact hXT
      (with_reducible refine (HMK.out U12).mono ?_)
      rintro e N12 ⟨rfl, hb⟩
      replace hXL := hXL.below hb
      replace hXT := hXT.below hb
      refine hK.out _ _ ⟨hM0.below hb, hM1.below hb, hKB.trans (hb.mono hKB.size)⟩ (fun hHeld => ?_)
      clear hK
      refine wpAnyH_take (i := 21) (v := .tuple #[imgV (1 + D.w % 6) (1 + D.h % 6) n 16 D.pl (padOf D.p) O0, .int .i64 0]) rfl (by kernel_rfl) (by kernel_rfl) (by kernel_rfl) (fun _ _ _ h => h) (Or.inl ⟨by rfl, ?_⟩) hHeld ?_
      · rintro V ⟨⟨x0l, x00, x01, x02, x03, x04, x05, x06, x0z⟩, ⟨x1l, x10, x11, x12, x13, x14, x15, x16, x1z⟩, -⟩
        go_simp
      try simp only [Act.put, List.getElem_toArray, List.getElem_cons_succ, List.getElem_cons_zero, List.setIfInBounds_toArray, List.set_cons_zero, List.set_cons_succ]
      refine wpAnyH_take (i := 22) (v := imgV (1 + D.w % 6) (1 + D.h % 6) n 16 D.pl (padOf D.p) O0) rfl (by kernel_rfl) (by kernel_rfl) (by kernel_rfl) (fun _ _ _ h => h) (Or.inl ⟨by rfl, ?_⟩) hHeld ?_
      · rintro V ⟨⟨x0l, x00, x01, x02, x03, x04, x05, x06, x0z⟩, ⟨x1l, x10, x11, x12, x13, x14, x15, x16, x1z⟩, -⟩
        go_simp
      try simp only [Act.put, List.getElem_toArray, List.getElem_cons_succ, List.getElem_cons_zero, List.setIfInBounds_toArray, List.set_cons_zero, List.set_cons_succ]
      refine wpAnyH_take (i := 23) (v := .int .i64 0) rfl (by kernel_rfl) (by kernel_rfl) (by kernel_rfl) (fun _ _ _ h => h) (Or.inl ⟨by rfl, ?_⟩) hHeld ?_
      · rintro V ⟨⟨x0l, x00, x01, x02, x03, x04, x05, x06, x0z⟩, ⟨x1l, x10, x11, x12, x13, x14, x15, x16, x1z⟩, -⟩
        go_simp
      try simp only [Act.put, List.getElem_toArray, List.getElem_cons_succ, List.getElem_cons_zero, List.setIfInBounds_toArray, List.set_cons_zero, List.set_cons_succ]
      refine wpAnyH_ready (rs := [25]) (by kernel_rfl) (by simp) ?_
      refine AllReadyH.cons rfl (fun K hK => ?_) AllReadyH.nil
      obtain ⟨oXl, oX0, oX1, oX2, oX3, oX4, oX5, oX6, oXz⟩ := hXT
      try dsimp only at oX0 oX1 oX2 oX3 oX4 oX5 oX6
      go_simp
      refine hK.out _ _ ⟨(((((((hHeld.1.set_other hneT0 _).set_other hneT0 _).set_other hneT0 _).set_other hneT0 _).set_other hneT0 _).set_other hneT0 _).set_other hneT0 _), (((((((hHeld.2.1.set_other hneT1 _).set_other hneT1 _).set_other hneT1 _).set_other hneT1 _).set_other hneT1 _).set_other hneT1 _).set_other hneT1 _), (((((((hHeld.2.2.setCell hleT _).setCell hleT _).setCell hleT _).setCell hleT _).setCell hleT _).setCell hleT _).setCell hleT _)⟩ (fun hHeld => ?_)
      clear hK
      refine wpAnyH_gen ?_
      intro U13 hU
      have hXT : HasIm U13 U1.heap.size ⟨⟨1 + D.w % 6, 1 + D.h % 6, n, 16, D.pl, padOf D.p⟩, O0⟩ := ⟨by rw [hU]; go_simp, by rw [hU]; go_simp, by rw [hU]; go_simp, by rw [hU]; go_simp, by rw [hU]; go_simp, by rw [hU]; go_simp, by rw [hU]; go_simp, by rw [hU]; go_simp, fun o => by rw [hU]; go_simp⟩
      have hM0 : HasDr U13 w.heap.size ⟨D.w, D.h, D.c, D.p, true, D.pl, D.vs⟩ a cap := by rw [hU]; exact hHeld.1
      have hM1 : HasIm U13 (w.heap.size + 1) ⟨⟨0, 0, 0, 0, false, 0⟩, ⟨#[]⟩⟩ := by rw [hU]; exact hHeld.2.1
      have hKB : Below w.heap.size w U13 := by rw [hU]; exact hHeld.2.2
      replace hHeld : HasDr U13 w.heap.size ⟨D.w, D.h, D.c, D.p, true, D.pl, D.vs⟩ a cap ∧ HasIm U13 (w.heap.size + 1) ⟨⟨0, 0, 0, 0, false, 0⟩, ⟨#[]⟩⟩ ∧ Below w.heap.size w U13 := ⟨hM0, hM1, hKB⟩
      clear hU
      refine wpAnyH_take (i := 26) (v := .int .i64 0) rfl (by kernel_rfl) (by kernel_rfl) (by kernel_rfl) (fun _ _ _ h => h) (Or.inl ⟨by rfl, ?_⟩) hHeld ?_
      · rintro V ⟨⟨x0l, x00, x01, x02, x03, x04, x05, x06, x0z⟩, ⟨x1l, x10, x11, x12, x13, x14, x15, x16, x1z⟩, -⟩
        go_simp
      try simp only [Act.put, List.getElem_toArray, List.getElem_cons_succ, List.getElem_cons_zero, List.setIfInBounds_toArray, List.set_cons_zero, List.set_cons_succ]
      refine wpAnyH_done (by kernel_rfl) ?_ _
      try simp only [Act.put, List.getElem_toArray, List.getElem_cons_succ, List.getElem_cons_zero, List.setIfInBounds_toArray, List.set_cons_zero, List.set_cons_succ]
      go_wp2_with fail
      go_meet
      exact ⟨U1.heap.size, rfl, hgtT1, hXT, hHeld.1, hHeld.2.1, hHeld.2.2⟩
    refine AllReadyH.cons rfl (fun K hK => ?_) AllReadyH.nil
    go_simp
    have hgtT0 : w.heap.size < U0.heap.size := hHeld.1.lt
    have hneT0 : w.heap.size ≠ U0.heap.size := Nat.ne_of_lt hHeld.1.lt
    have hgtT1 : (w.heap.size + 1) < U0.heap.size := hHeld.2.1.lt
    have hneT1 : (w.heap.size + 1) ≠ U0.heap.size := Nat.ne_of_lt hHeld.2.1.lt
    have hleT : w.heap.size ≤ U0.heap.size := hHeld.2.2.size
    refine hK.out _ _ ⟨hHeld.1.below ((Below.refl _ _).alloc (Nat.le_refl _) _), hHeld.2.1.below ((Below.refl _ _).alloc (Nat.le_refl _) _), hHeld.2.2.alloc hHeld.2.2.size _⟩ (fun hHeld => ?_)
    clear hK
    have hXT : HasIm (U0.alloc (.cells #[.int .i64 0, .int .i64 0, .int .i64 0, .int .i64 0, .bool false, .int .i64 0, .string ⟨#[]⟩] 31)) U0.heap.size ⟨⟨0, 0, 0, 0, false, 0⟩, ⟨#[]⟩⟩ := ⟨by go_simp, by go_simp, by go_simp, by go_simp, by go_simp, by go_simp, by go_simp, by go_simp, fun o => by go_simp⟩
    refine wpAnyH_gen ?_
    intro U14 hU
    have hM0 : HasDr U14 w.heap.size ⟨D.w, D.h, D.c, D.p, true, D.pl, D.vs⟩ a cap := by rw [hU]; exact hHeld.1
    have hM1 : HasIm U14 (w.heap.size + 1) ⟨⟨0, 0, 0, 0, false, 0⟩, ⟨#[]⟩⟩ := by rw [hU]; exact hHeld.2.1
    have hKB : Below w.heap.size w U14 := by rw [hU]; exact hHeld.2.2
    have hXT : HasIm U14 U0.heap.size ⟨⟨0, 0, 0, 0, false, 0⟩, ⟨#[]⟩⟩ := by rw [hU]; exact hXT
    replace hHeld : HasDr U14 w.heap.size ⟨D.w, D.h, D.c, D.p, true, D.pl, D.vs⟩ a cap ∧ HasIm U14 (w.heap.size + 1) ⟨⟨0, 0, 0, 0, false, 0⟩, ⟨#[]⟩⟩ ∧ Below w.heap.size w U14 := ⟨hM0, hM1, hKB⟩
    clear hU
    refine wpAnyH_ready (rs := [14]) (by kernel_rfl) (by simp) ?_
    refine AllReadyH.cons rfl (fun K hK => ?_) AllReadyH.nil
    go_simp
    replace hXT := hXT.below ((Below.refl U14.heap.size U14).alloc (Nat.le_refl _) (.cells #[.int .i64 1, .int .i64 2, .int .i64 4, .int .i64 8] 3))
    refine hK.out _ _ ⟨hHeld.1.below ((Below.refl _ _).alloc (Nat.le_refl _) _), hHeld.2.1.below ((Below.refl _ _).alloc (Nat.le_refl _) _), hHeld.2.2.alloc hHeld.2.2.size _⟩ (fun hHeld => ?_)
    clear hK
    have hXL : Ints (U14.alloc (.cells #[.int .i64 1, .int .i64 2, .int .i64 4, .int .i64 8] 3)) (some ⟨U14.heap.size, 0, none⟩) [1, 2, 4, 8] := fun _ => ⟨_, _, rfl, fun i hi => by
      have : i = 0 ∨ i = 1 ∨ i = 2 ∨ i = 3 := by simp at hi; omega
      rcases this with rfl | rfl | rfl | rfl <;> go_simp⟩
    refine wpAnyH_gen ?_
    intro U15 hU
    have hM0 : HasDr U15 w.heap.size ⟨D.w, D.h, D.c, D.p, true, D.pl, D.vs⟩ a cap := by rw [hU]; exact hHeld.1
    have hM1 : HasIm U15 (w.heap.size + 1) ⟨⟨0, 0, 0, 0, false, 0⟩, ⟨#[]⟩⟩ := by rw [hU]; exact hHeld.2.1
    have hKB : Below w.heap.size w U15 := by rw [hU]; exact hHeld.2.2
    have hXT : HasIm U15 U0.heap.size ⟨⟨0, 0, 0, 0, false, 0⟩, ⟨#[]⟩⟩ := by rw [hU]; exact hXT
    have hXL : Ints U15 (some ⟨U14.heap.size, 0, none⟩) [1, 2, 4, 8] := by rw [hU]; exact hXL
    replace hHeld : HasDr U15 w.heap.size ⟨D.w, D.h, D.c, D.p, true, D.pl, D.vs⟩ a cap ∧ HasIm U15 (w.heap.size + 1) ⟨⟨0, 0, 0, 0, false, 0⟩, ⟨#[]⟩⟩ ∧ Below w.heap.size w U15 := ⟨hM0, hM1, hKB⟩
    clear hU
    refine wpAnyH_ready (rs := [18]) (by kernel_rfl) (by simp) ?_
    refine AllReadyH.cons rfl (fun K hK => ?_) AllReadyH.nil
    go_simp
    refine hK.out _ _ hHeld (fun hHeld => ?_)
    clear hK
    refine wpAnyH_ready (rs := [19]) (by kernel_rfl) (by simp) ?_
    refine AllReadyH.cons rfl (fun K hK => ?_) AllReadyH.nil
    obtain ⟨lb, lo, lx, le, lc, lX⟩ := hXL.at (k := (D.p % 4).toNat) (by simp; omega)
    cases le
    have lX' := lX.out
    have lpad := padOf_at D.p a5
    rw [lX', Option.getD_some] at lpad
    rw [lpad, Nat.zero_add] at lc
    clear lX lX' lpad
    go_simp
    refine hK.out _ _ hHeld (fun hHeld => ?_)
    clear hK
    refine wpAnyH_ready (rs := [20]) (by kernel_rfl) (by simp) ?_
    refine AllReadyH.cons rfl (fun K hK => ?_) AllReadyH.nil
    go_simp
    (with_reducible refine calls_gen ?_)
    intro U16 hU
    have hM0 : HasDr U16 w.heap.size ⟨D.w, D.h, D.c, D.p, true, D.pl, D.vs⟩ a cap := by rw [hU]; exact hHeld.1
    have hM1 : HasIm U16 (w.heap.size + 1) ⟨⟨0, 0, 0, 0, false, 0⟩, ⟨#[]⟩⟩ := by rw [hU]; exact hHeld.2.1
    have hKB : Below w.heap.size w U16 := by rw [hU]; exact hHeld.2.2
    have hXT : HasIm U16 U0.heap.size ⟨⟨0, 0, 0, 0, false, 0⟩, ⟨#[]⟩⟩ := by rw [hU]; exact hXT
    have hXL : Ints U16 (some ⟨U14.heap.size, 0, none⟩) [1, 2, 4, 8] := by rw [hU]; exact hXL
    (with_reducible refine (HMK.out U16).mono ?_)
    rintro e N16 ⟨rfl, hb⟩
    replace hXT := hXT.below hb
    replace hXL := hXL.below hb
    refine hK.out _ _ ⟨hM0.below hb, hM1.below hb, hKB.trans (hb.mono hKB.size)⟩ (fun hHeld => ?_)
    clear hK
    refine wpAnyH_take (i := 21) (v := .tuple #[imgV (1 + D.w % 6) (1 + D.h % 6) n 16 D.pl (padOf D.p) O0, .int .i64 0]) rfl (by kernel_rfl) (by kernel_rfl) (by kernel_rfl) (fun _ _ _ h => h) (Or.inl ⟨by rfl, ?_⟩) hHeld ?_
    · rintro V ⟨⟨x0l, x00, x01, x02, x03, x04, x05, x06, x0z⟩, ⟨x1l, x10, x11, x12, x13, x14, x15, x16, x1z⟩, -⟩
      go_simp
    try simp only [Act.put, List.getElem_toArray, List.getElem_cons_succ, List.getElem_cons_zero, List.setIfInBounds_toArray, List.set_cons_zero, List.set_cons_succ]
    refine wpAnyH_take (i := 22) (v := imgV (1 + D.w % 6) (1 + D.h % 6) n 16 D.pl (padOf D.p) O0) rfl (by kernel_rfl) (by kernel_rfl) (by kernel_rfl) (fun _ _ _ h => h) (Or.inl ⟨by rfl, ?_⟩) hHeld ?_
    · rintro V ⟨⟨x0l, x00, x01, x02, x03, x04, x05, x06, x0z⟩, ⟨x1l, x10, x11, x12, x13, x14, x15, x16, x1z⟩, -⟩
      go_simp
    try simp only [Act.put, List.getElem_toArray, List.getElem_cons_succ, List.getElem_cons_zero, List.setIfInBounds_toArray, List.set_cons_zero, List.set_cons_succ]
    refine wpAnyH_take (i := 23) (v := .int .i64 0) rfl (by kernel_rfl) (by kernel_rfl) (by kernel_rfl) (fun _ _ _ h => h) (Or.inl ⟨by rfl, ?_⟩) hHeld ?_
    · rintro V ⟨⟨x0l, x00, x01, x02, x03, x04, x05, x06, x0z⟩, ⟨x1l, x10, x11, x12, x13, x14, x15, x16, x1z⟩, -⟩
      go_simp
    try simp only [Act.put, List.getElem_toArray, List.getElem_cons_succ, List.getElem_cons_zero, List.setIfInBounds_toArray, List.set_cons_zero, List.set_cons_succ]
    refine wpAnyH_ready (rs := [25]) (by kernel_rfl) (by simp) ?_
    refine AllReadyH.cons rfl (fun K hK => ?_) AllReadyH.nil
    obtain ⟨oXl, oX0, oX1, oX2, oX3, oX4, oX5, oX6, oXz⟩ := hXT
    try dsimp only at oX0 oX1 oX2 oX3 oX4 oX5 oX6
    go_simp
    refine hK.out _ _ ⟨(((((((hHeld.1.set_other hneT0 _).set_other hneT0 _).set_other hneT0 _).set_other hneT0 _).set_other hneT0 _).set_other hneT0 _).set_other hneT0 _), (((((((hHeld.2.1.set_other hneT1 _).set_other hneT1 _).set_other hneT1 _).set_other hneT1 _).set_other hneT1 _).set_other hneT1 _).set_other hneT1 _), (((((((hHeld.2.2.setCell hleT _).setCell hleT _).setCell hleT _).setCell hleT _).setCell hleT _).setCell hleT _).setCell hleT _)⟩ (fun hHeld => ?_)
    clear hK
    refine wpAnyH_gen ?_
    intro U17 hU
    have hXT : HasIm U17 U0.heap.size ⟨⟨1 + D.w % 6, 1 + D.h % 6, n, 16, D.pl, padOf D.p⟩, O0⟩ := ⟨by rw [hU]; go_simp, by rw [hU]; go_simp, by rw [hU]; go_simp, by rw [hU]; go_simp, by rw [hU]; go_simp, by rw [hU]; go_simp, by rw [hU]; go_simp, by rw [hU]; go_simp, fun o => by rw [hU]; go_simp⟩
    have hM0 : HasDr U17 w.heap.size ⟨D.w, D.h, D.c, D.p, true, D.pl, D.vs⟩ a cap := by rw [hU]; exact hHeld.1
    have hM1 : HasIm U17 (w.heap.size + 1) ⟨⟨0, 0, 0, 0, false, 0⟩, ⟨#[]⟩⟩ := by rw [hU]; exact hHeld.2.1
    have hKB : Below w.heap.size w U17 := by rw [hU]; exact hHeld.2.2
    replace hHeld : HasDr U17 w.heap.size ⟨D.w, D.h, D.c, D.p, true, D.pl, D.vs⟩ a cap ∧ HasIm U17 (w.heap.size + 1) ⟨⟨0, 0, 0, 0, false, 0⟩, ⟨#[]⟩⟩ ∧ Below w.heap.size w U17 := ⟨hM0, hM1, hKB⟩
    clear hU
    refine wpAnyH_take (i := 26) (v := .int .i64 0) rfl (by kernel_rfl) (by kernel_rfl) (by kernel_rfl) (fun _ _ _ h => h) (Or.inl ⟨by rfl, ?_⟩) hHeld ?_
    · rintro V ⟨⟨x0l, x00, x01, x02, x03, x04, x05, x06, x0z⟩, ⟨x1l, x10, x11, x12, x13, x14, x15, x16, x1z⟩, -⟩
      go_simp
    try simp only [Act.put, List.getElem_toArray, List.getElem_cons_succ, List.getElem_cons_zero, List.setIfInBounds_toArray, List.set_cons_zero, List.set_cons_succ]
    refine wpAnyH_done (by kernel_rfl) ?_ _
    try simp only [Act.put, List.getElem_toArray, List.getElem_cons_succ, List.getElem_cons_zero, List.setIfInBounds_toArray, List.set_cons_zero, List.set_cons_succ]
    go_wp2_with fail
    go_meet
    exact ⟨U0.heap.size, rfl, hgtT1, hXT, hHeld.1, hHeld.2.1, hHeld.2.2⟩

  case rest =>
    obtain ⟨b7, rfl, hb7, hI7, hdr7, hz7, hB7⟩ := hcut
    clear hdr hz hB hsz
    obtain ⟨Wn, hWn⟩ : ∃ Wn : Nat, 1 + D.w % 6 = (Wn : Int) := Int.eq_ofNat_of_zero_le (by omega)
    obtain ⟨Hn, hHn⟩ : ∃ Hn : Nat, 1 + D.h % 6 = (Hn : Int) := Int.eq_ofNat_of_zero_le (by omega)
    obtain ⟨Cn, hCn⟩ : ∃ Cn : Nat, n = (Cn : Int) := Int.eq_ofNat_of_zero_le (by omega)
    have w6 : Wn ≤ 6 := by omega
    have h6 : Hn ≤ 6 := by omega
    have c4 : Cn ≤ 4 := by omega
    have hput : ∀ V ao cv (X Y k : Nat), k = Y * Wn + X → X < Wn → Y < Hn → Ints V ao ((List.range Cn).map fun j => D.fn n (X : Nat) (Y : Nat) (j : Nat)) →
        Calls Try.prog 52 #[imgV (1 + D.w % 6) (1 + D.h % 6) n 16 D.pl (padOf D.p) (drO D n k), .int .i64 X, .int .i64 Y, .slice ao Cn cv] V fun e w' =>
          e = .returned (imgV (1 + D.w % 6) (1 + D.h % 6) n 16 D.pl (padOf D.p) (drO D n (k + 1))) ∧ Below V.heap.size V w' := fun V ao cv X Y k hk hX hY hi => by
      have h := drput D HD.out n n1 n4 V ao cv X Y k Wn Cn hWn hCn hk hX (by show (Y : Int) < 1 + D.h % 6; omega) hi
      have eB : (D.lay n).B = 16 := by show D.B = 16; unfold Dr.B; rw [HDEEP.out]; rfl
      unfold Im.v Lay.img at h
      dsimp only at h
      rw [eB] at h
      exact h
    have hG0 : O0 = drO D n 0 := by rw [HO0.out]; exact drO_zero D HD.out n n1 n4
    have HPUT := Lib.hid hput
    have HW := Lib.hid hWn
    have HH := Lib.hid hHn
    have HC := Lib.hid hCn
    rw [hG0] at hI7
    have HI7 := Lib.hid hI7
    have HDR7 := Lib.hid hdr7
    have HZ7 := Lib.hid hz7
    have HB7 := Lib.hid hB7
    have hmost : ∀ i : Nat, D.vs ≠ [] → D.val i = D.vs[i % D.vs.length]?.getD 0 % 65536 := fun i h => by unfold Dr.val Dr.most; rw [if_neg h, HDEEP.out]; rfl
    have hmost0 : ∀ i : Nat, D.vs = [] → D.val i = 0 := fun i h => by unfold Dr.val; rw [if_pos h]
    have HM := Lib.hid hmost
    have HM0 := Lib.hid hmost0
    obtain ⟨i0, hi, hz0, hz1, hz2⟩ := info_of_int
    clear hput hWn hHn hCn hG0 hI7 hdr7 hz7 hB7 hmost hmost0
    go_wp2_with fail
    go_loopw [9, 10, 11, 12, 13, 14] (fun s9 s10 _ _ _ _ wr => ∃ Y N9 : Nat, Y ≤ Hn ∧ Hid (N9 = Y * Wn * Cn) ∧ s9 = .int .i64 N9 ∧ s10 = .int .i64 Y ∧ HasIm wr b7 ⟨⟨1 + D.w % 6, 1 + D.h % 6, n, 16, D.pl, padOf D.p⟩, drO D n (Y * Wn)⟩ ∧
        HasDr wr w.heap.size ⟨D.w, D.h, D.c, D.p, true, D.pl, D.vs⟩ a cap ∧ HasIm wr (w.heap.size + 1) ⟨⟨0, 0, 0, 0, false, 0⟩, ⟨#[]⟩⟩ ∧ Below w.heap.size w wr) (fun _ s10 _ _ _ _ _ => Hn - (intOf s10).toNat)
    case atStart => exact ⟨0, 0, Nat.zero_le _, Lib.hid (by simp), rfl, rfl, by rw [Nat.zero_mul]; exact HI7.out, HDR7.out, HZ7.out, HB7.out⟩
    case round =>
      obtain ⟨Y, N9, hY, hN9, rfl, rfl, hI, hdr, hz, hB⟩ := hrel
      obtain ⟨il, i0', i1, i2, i3, i4, i5, i6, iz⟩ := hI
      dsimp only at i0' i1 i2 i3 i4 i5 i6
      have HI := Lib.hid (⟨il, i0', i1, i2, i3, i4, i5, i6, iz⟩ : HasIm wr b7 ⟨⟨1 + D.w % 6, 1 + D.h % 6, n, 16, D.pl, padOf D.p⟩, drO D n (Y * Wn)⟩)
      have HDR := Lib.hid hdr
      have HZ := Lib.hid hz
      have HB := Lib.hid hB
      clear hdr hz hB
      by_cases hYl : Y < Hn
      · have hYt : (Y : Int) < 1 + D.h % 6 := by have := HH.out; omega
        go_wp2_with fail
        go_loopw [9, 11, 12, 13, 14] (fun s9 s11 _ _ _ wr => ∃ X N9 : Nat, X ≤ Wn ∧ Hid (N9 = (Y * Wn + X) * Cn) ∧ s9 = .int .i64 N9 ∧ s11 = .int .i64 X ∧ HasIm wr b7 ⟨⟨1 + D.w % 6, 1 + D.h % 6, n, 16, D.pl, padOf D.p⟩, drO D n (Y * Wn + X)⟩ ∧
            HasDr wr w.heap.size ⟨D.w, D.h, D.c, D.p, true, D.pl, D.vs⟩ a cap ∧ HasIm wr (w.heap.size + 1) ⟨⟨0, 0, 0, 0, false, 0⟩, ⟨#[]⟩⟩ ∧ Below w.heap.size w wr) (fun _ s11 _ _ _ _ => Wn - (intOf s11).toNat)
        case atStart => exact ⟨0, N9, Nat.zero_le _, Lib.hid (by rw [Nat.add_zero]; exact hN9.out), rfl, rfl, HI.out, HDR.out, HZ.out, HB.out⟩
        case round =>
          obtain ⟨X, M9, hX, hM9, rfl, rfl, hI, hdr, hz, hB⟩ := hrel
          obtain ⟨jl, j0, j1, j2, j3, j4, j5, j6, jz⟩ := hI
          dsimp only at j0 j1 j2 j3 j4 j5 j6
          have HI2 := Lib.hid (⟨jl, j0, j1, j2, j3, j4, j5, j6, jz⟩ : HasIm wr b7 ⟨⟨1 + D.w % 6, 1 + D.h % 6, n, 16, D.pl, padOf D.p⟩, drO D n (Y * Wn + X)⟩)
          have HDR2 := Lib.hid hdr
          have HZ2 := Lib.hid hz
          have HB2 := Lib.hid hB
          clear hdr hz hB
          by_cases hXl : X < Wn
          · have hXt : (X : Int) < 1 + D.w % 6 := by have := HW.out; omega
            obtain ⟨base, hbase⟩ : ∃ base, base = wr.heap.size := ⟨_, rfl⟩
            have hb7b : b7 < base := by rw [hbase]; exact jl
            have hbz : base ≤ wr.heap.size := by omega
            clear hbase
            go_wp2_with fail
            go_loopw [9, 12, 13, 14] (fun s9 s12 s13 _ wr => ∃ (k N : Nat) (ao : Option Addr) (cv : Nat), k ≤ Cn ∧ Hid (N = (Y * Wn + X) * Cn + k) ∧ s9 = .int .i64 N ∧ s13 = .int .i64 k ∧ s12 = .slice ao k cv ∧
                Owns wr base s12 ((List.range k).map fun j => D.fn n (X : Nat) (Y : Nat) (j : Nat)) ∧ HasIm wr b7 ⟨⟨1 + D.w % 6, 1 + D.h % 6, n, 16, D.pl, padOf D.p⟩, drO D n (Y * Wn + X)⟩ ∧
                HasDr wr w.heap.size ⟨D.w, D.h, D.c, D.p, true, D.pl, D.vs⟩ a cap ∧ HasIm wr (w.heap.size + 1) ⟨⟨0, 0, 0, 0, false, 0⟩, ⟨#[]⟩⟩ ∧ Below w.heap.size w wr ∧ base ≤ wr.heap.size) (fun _ _ s13 _ _ => Cn - (intOf s13).toNat)
            case atStart => exact ⟨0, M9, none, 0, Nat.zero_le _, Lib.hid (by rw [Nat.add_zero]; exact hM9.out), rfl, rfl, rfl, Owns.nil _ _, HI2.out, HDR2.out, HZ2.out, HB2.out, hbz⟩
            case round =>
              obtain ⟨k, N, ao, cv, hk, hN, rfl, rfl, rfl, hown, hI, hdr, hz, hB, hbs⟩ := hrel
              have HI3 := Lib.hid hI
              obtain ⟨dl, d0, d1, d2, d3, d4, d5, d6, dz⟩ := hdr
              dsimp only at d0 d1 d2 d3 d4 d5 d6
              have HDR3 := Lib.hid (⟨dl, d0, d1, d2, d3, d4, d5, d6, dz⟩ : HasDr wr w.heap.size ⟨D.w, D.h, D.c, D.p, true, D.pl, D.vs⟩ a cap)
              have HZ3 := Lib.hid hz
              have HB3 := Lib.hid hB
              have HOWN := Lib.hid hown
              have hown3 := hown
              unfold Owns at hown3
              rw [List.length_map, List.length_range] at hown3
              have hlow : ∀ q, Value.ownBlock (.slice ao k cv) = some q → base ≤ q := fun q hq => (hown3.lt q hq).1
              have HLOW := Lib.hid hlow
              clear hz hB hown hlow hI
              by_cases hkl : k < Cn
              · have hkt : (k : Int) < n := by have := HC.out; omega
                have hfn : D.fn n (X : Nat) (Y : Nat) (k : Nat) = D.val N := by
                  unfold Dr.fn
                  rw [HW.out, HC.out, hN.out]
                  congr 1
                have HFN := Lib.hid hfn
                have hNb : (N : Int) ≤ 1000 := by
                  have e1 : Y * Wn ≤ 6 * 6 := Nat.mul_le_mul (by omega) w6
                  have e2 : (Y * Wn + X) * Cn ≤ 42 * 4 := Nat.mul_le_mul (by omega) c4
                  have := hN.out
                  omega
                clear hfn
                by_cases hvs : D.vs = []
                · have hl0 : ¬ (0 : Int) < (D.vs.length : Int) := by rw [hvs]; simp
                  have hl1 : (D.vs.length : Int) ≤ 0 := by rw [hvs]; simp
                  have HVZ := Lib.hid (HM0.out N hvs)
                  clear hvs
                  go_wp2_with (first | (at_builtin; refine wpList_append_own _ rfl _ _ 44 rfl base 3 i0 (.int .i64 0) 1 8 Try.underlying44 hi hz0 hz1 hz2 rfl (by decide) _ _ _ rfl (hown3.alloc _) ⟨wr.heap.size, 0, none⟩ 1 1 [.int .i64 (0)] rfl rfl (cell_one_new _ _ _) (fun x hx => by simp at hx; subst hx; rfl) (by unfold maxLen; omega) (by omega) (by simp; omega) ?_; intro v' w4 hown' hgrow3 hnil3))
                  go_roundw
                  case rel =>
                    have hO : Owns w4 base v' ((List.range (k + 1)).map fun j => D.fn n (X : Nat) (Y : Nat) (j : Nat)) := by
                      rw [List.range_succ, List.map_append]
                      exact Owns.push (x := D.fn n (X : Nat) (Y : Nat) (k : Nat)) (by rw [List.length_map, List.length_range, show D.fn n (X : Nat) (Y : Nat) (k : Nat) = 0 from HFN.out.trans HVZ.out]; exact hown')
                    have hO' := hO
                    obtain ⟨a4, c4, hv4, _, _, _⟩ := hO.slice
                    rw [List.length_map, List.length_range] at hv4
                    have hsz3 := HB3.out.size
                    have hgs := hgrow3.size
                    rw [World.size_alloc] at hgs
                    refine ⟨k + 1, N + 1, a4, c4, by omega, Lib.hid (by have := hN.out; omega), by go_num, by go_num, hv4, hO', ?_, ?_, ?_, ?_, by omega⟩
                    · exact (HI3.out.below ((Below.refl _ _).alloc (Nat.le_refl _) _)).grownBy hgrow3 (fun e => by have := HLOW.out _ e; omega)
                    · exact (HDR3.out.below ((Below.refl _ _).alloc (Nat.le_refl _) _)).grownBy hgrow3 (fun e => by have := HLOW.out _ e; omega)
                    · exact (HZ3.out.below ((Below.refl _ _).alloc (Nat.le_refl _) _)).grownBy hgrow3 (fun e => by have := HLOW.out _ e; omega)
                    · exact (HB3.out.alloc (by omega) _).grown hgrow3 (by simp; omega) (fun q hq => by have := HLOW.out q hq; omega)
                  case measure => simp [intOf]; omega
                · have hl0 : (0 : Int) < (D.vs.length : Int) := by have := List.length_pos_iff.2 hvs; omega
                  have hl0n : 0 < D.vs.length := by omega
                  have hVZ := HM.out N hvs
                  obtain ⟨ub, uo, u, rfl, huc, hU⟩ := (HVS.out.below HB3.out).at (k := N % D.vs.length) (Nat.mod_lt _ hl0n)
                  rw [hU.out, Option.getD_some] at hVZ
                  obtain ⟨u0, u1⟩ := HD.out.vs u (List.mem_of_getElem? hU.out)
                  
                  have HVZ := Lib.hid hVZ
                  have hidx : ((N : Int) % (D.vs.length : Int)).toNat = N % D.vs.length := by rw [← Int.natCast_emod, Int.toNat_natCast]
                  have hix0 : 0 ≤ (N : Int) % (D.vs.length : Int) := Int.emod_nonneg _ (by omega)
                  have hix1 : (N : Int) % (D.vs.length : Int) < (D.vs.length : Int) := Int.emod_lt_of_pos _ hl0
                  clear hvs hVZ hidx
                  go_wp2_with fail
                  go_region
                  have hown4 : wr.drew.ownsRow base 3 1 (.slice ao k cv) k (((List.range k).map fun j => D.fn n (X : Nat) (Y : Nat) (j : Nat)).map (.int .i64)) := hown3
                  have hdrw : Below wr.heap.size wr wr.drew := (Below.refl _ _).drew
                  have hds : wr.drew.heap.size = wr.heap.size := rfl
                  generalize wr.drew = wd at hown4 hdrw hds ⊢
                  have hbs4 : base ≤ wd.heap.size := by omega
                  clear hds
                  go_wp2_with (first | (at_builtin; refine wpList_append_own _ rfl _ _ 44 rfl base 3 i0 (.int .i64 0) 1 8 Try.underlying44 hi hz0 hz1 hz2 rfl (by decide) _ _ _ rfl (hown4.alloc _) ⟨wd.heap.size, 0, none⟩ 1 1 [.int .i64 (u % 65536)] rfl rfl (cell_one_new _ _ _) (fun x hx => by simp at hx; subst hx; rfl) (by unfold maxLen; omega) (by omega) (by simp; omega) ?_; intro v' w4 hown' hgrow3 hnil3))
                  go_roundw
                  case rel =>
                    have hO : Owns w4 base v' ((List.range (k + 1)).map fun j => D.fn n (X : Nat) (Y : Nat) (j : Nat)) := by
                      rw [List.range_succ, List.map_append]
                      exact Owns.push (x := D.fn n (X : Nat) (Y : Nat) (k : Nat)) (by rw [List.length_map, List.length_range, show D.fn n (X : Nat) (Y : Nat) (k : Nat) = u % 65536 from HFN.out.trans HVZ.out]; exact hown')
                    have hO' := hO
                    obtain ⟨a4, c4, hv4, _, _, _⟩ := hO.slice
                    rw [List.length_map, List.length_range] at hv4
                    have hsz3 := HB3.out.size
                    have hgs := hgrow3.size
                    have hd4 := hdrw.size
                    rw [World.size_alloc] at hgs
                    refine ⟨k + 1, N + 1, a4, c4, by omega, Lib.hid (by have := hN.out; omega), by go_num, by go_num, hv4, hO', ?_, ?_, ?_, ?_, by omega⟩
                    · exact ((HI3.out.below hdrw).below ((Below.refl _ _).alloc (Nat.le_refl _) _)).grownBy hgrow3 (fun e => by have := HLOW.out _ e; omega)
                    · exact ((HDR3.out.below hdrw).below ((Below.refl _ _).alloc (Nat.le_refl _) _)).grownBy hgrow3 (fun e => by have := HLOW.out _ e; omega)
                    · exact ((HZ3.out.below hdrw).below ((Below.refl _ _).alloc (Nat.le_refl _) _)).grownBy hgrow3 (fun e => by have := HLOW.out _ e; omega)
                    · exact ((HB3.out.trans (hdrw.mono HB3.out.size)).alloc (by omega) _).grown hgrow3 (by simp; omega) (fun q hq => by have := HLOW.out q hq; omega)
                  case measure => simp [intOf]; omega
              · have hkk : k = Cn := by omega
                subst hkk
                have hkt' : n ≤ (k : Int) := by have := HC.out; omega
                obtain ⟨al, cl, hsl, hints, _, _⟩ := HOWN.out.slice
                rw [List.length_map, List.length_range] at hsl
                cases hsl
                obtain ⟨jl, j0, j1, j2, j3, j4, j5, j6, jz⟩ := HI3.out
                dsimp only at j0 j1 j2 j3 j4 j5 j6
                have hbb : w.heap.size ≠ b7 := by omega
                have hbb' : w.heap.size + 1 ≠ b7 := by omega
                go_wp2_with fail
                (with_reducible refine (HPUT.out _ _ _ X Y _ rfl hXl hYl hints).mono ?_)
                rintro e w5 ⟨rfl, hb5⟩
                have hI5 := HI3.out.below hb5
                have HDR5 := Lib.hid (HDR3.out.below hb5)
                have HZ5 := Lib.hid (HZ3.out.below hb5)
                have HB5 := Lib.hid (HB3.out.trans (hb5.mono HB3.out.size))
                clear jl j0 j1 j2 j3 j4 j5 j6 jz hb5
                obtain ⟨jl, j0, j1, j2, j3, j4, j5, j6, jz⟩ := hI5
                dsimp only at j0 j1 j2 j3 j4 j5 j6
                go_wp2_with fail
                go_roundw
                case rel =>
                  refine ⟨X + 1, N, by omega, Lib.hid (by rw [← Nat.add_assoc, Nat.succ_mul]; exact hN.out), rfl, by go_num, ?_, (((((((HDR5.out).set_other (by show _ ≠ b7; omega) _).set_other (by show _ ≠ b7; omega) _).set_other (by show _ ≠ b7; omega) _).set_other (by show _ ≠ b7; omega) _).set_other (by show _ ≠ b7; omega) _).set_other (by show _ ≠ b7; omega) _).set_other (by show _ ≠ b7; omega) _, (((((((HZ5.out).set_other (by show _ ≠ b7; omega) _).set_other (by show _ ≠ b7; omega) _).set_other (by show _ ≠ b7; omega) _).set_other (by show _ ≠ b7; omega) _).set_other (by show _ ≠ b7; omega) _).set_other (by show _ ≠ b7; omega) _).set_other (by show _ ≠ b7; omega) _, (((((((HB5.out).setCell (by show _ ≤ b7; omega) _).setCell (by show _ ≤ b7; omega) _).setCell (by show _ ≤ b7; omega) _).setCell (by show _ ≤ b7; omega) _).setCell (by show _ ≤ b7; omega) _).setCell (by show _ ≤ b7; omega) _).setCell (by show _ ≤ b7; omega) _⟩
                  show HasIm _ b7 ⟨_, drO D n (Y * Wn + X + 1)⟩
                  exact ⟨by go_simp, by go_simp, by go_simp, by go_simp, by go_simp, by go_simp, by go_simp, by go_simp, fun o => by go_simp⟩
                case measure => simp [intOf]; omega
          · have hXe : X = Wn := by omega
            subst hXe
            have hXt : 1 + D.w % 6 ≤ (X : Int) := by have := HW.out; omega
            go_wp2_with fail
            go_roundw
            case rel => exact ⟨Y + 1, M9, by omega, Lib.hid (by rw [Nat.succ_mul]; exact hM9.out), rfl, by go_num, by rw [Nat.succ_mul]; exact HI2.out, HDR2.out, HZ2.out, HB2.out⟩
            case measure => simp [intOf]; omega
      · have hYe : Y = Hn := by omega
        subst hYe
        have hYt : 1 + D.h % 6 ≤ (Y : Int) := by have := HH.out; omega
        obtain ⟨zl, z0, z1, z2, z3, z4, z5, z6, zz⟩ := HZ.out
        dsimp only at z0 z1 z2 z3 z4 z5 z6
        go_wp2_with fail
        refine bodyPost_ret (v := imgV (1 + D.w % 6) (1 + D.h % 6) n 16 D.pl (padOf D.p) (drO D n (Y * Wn))) ?_ rfl ?_
        · simp [results, Try.results30, go_sem, z0, z1, z2, z3, z4, z5, z6]
        · refine ⟨?_, ?_⟩
          · rw [dr_full D HD.out n n1 n4 Wn Y HW.out HH.out]
            have eB : D.B = 16 := by unfold Dr.B; rw [HDEEP.out]; rfl
            show _ = Ending.returned (imgV (1 + D.w % 6) (1 + D.h % 6) n D.B D.pl (padOf D.p) (D.some n).O)
            rw [eB]
          · have hB := HB.out
            ((repeat (first | (with_reducible exact Below.refl _ _) | (with_reducible refine Below.setCell ?_ ?_ _) | (with_reducible refine Below.alloc ?_ ?_ _) | (with_reducible refine Below.drew ?_) | (with_reducible refine Below.trans ?_ (Below.mono (by assumption) ?_)))); all_goals ((try simp only [World.size_alloc, World.size_drew, World.size_setCell]); omega))

end Go.Proofs.Ytphfbjeaklpddaa
