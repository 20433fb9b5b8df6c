/-
  Layer 42: ImageSets, deep.
-/
import Derived.Test.YtphfbjeaklpddaaMb
namespace Go.Proofs.Ytphfbjeaklpddaa
open Go.RowKit

attribute [local go_sem] Oper.semAt_some

set_option maxRecDepth 100000 in
set_option maxHeartbeats 8000000 in
theorem setstrue (D : Dr) (hD : D.ok) (hdeep : D.deep = true) (a : Option Addr) (cap : Nat) (t0 t1 e0 e1 e2 e3 : Int) (w : World) (hvs : U16s w a D.vs) (ht0 : 0 ≤ t0 ∧ t0 < 256) (ht1 : 0 ≤ t1 ∧ t1 < 256)
    (he0 : 0 ≤ e0 ∧ e0 < 65536) (he1 : 0 ≤ e1 ∧ e1 < 65536) (he2 : 0 ≤ e2 ∧ e2 < 65536) (he3 : 0 ≤ e3 ∧ e3 < 65536) :
    Calls Try.prog 5 #[D.v a cap, .agg #[.int .u8 t0, .int .u8 t1], .agg #[.int .u16 e0, .int .u16 e1, .int .u16 e2, .int .u16 e3]] w fun e w' => e = .returned (.bool true) ∧ Below w.heap.size w w' := by
  have him : ∀ V, Below w.heap.size w V → Calls Try.prog 24 #[D.v a cap] V fun e w' => e = .returned (imgV (1 + D.w % 6) (1 + D.h % 6) (1 + D.c % 4) 16 D.pl (padOf D.p) D.im.O) ∧ Below V.heap.size V w' := fun V hV => by
    have h := image_any D hD a cap V (hvs.below hV)
    have eB : D.B = 16 := by unfold Dr.B; rw [hdeep]; rfl
    rw [← eB]
    exact h
  have HIM := Lib.hid him
  have HD := Lib.hid hD
  have HDEEP := Lib.hid hdeep
  clear him hD hvs
  unfold Dr.v at *
  rw [hdeep] at HIM ⊢
  clear hdeep
  go_enter Try.func5, Try.ntmps5
  go_wp2_with fail
  (with_reducible refine calls_gen ?_)
  intro V1 hV
  have hdr : HasDr V1 w.heap.size ⟨D.w, D.h, D.c, D.p, true, D.pl, D.vs⟩ a cap := ⟨by rw [hV]; go_simp, by rw [hV]; go_simp, by rw [hV]; go_simp, by rw [hV]; go_simp, by rw [hV]; go_simp, by rw [hV]; go_simp, by rw [hV]; go_simp, by rw [hV]; go_simp, fun o => by rw [hV]; go_simp⟩
  have hq0 : V1.cell? ⟨w.heap.size + 1, 0, none⟩ = some (.int .u8 t0) := by rw [hV]; go_simp
  have hq1 : V1.cell? ⟨w.heap.size + 1, 1, none⟩ = some (.int .u8 t1) := by rw [hV]; go_simp
  have hr0 : V1.cell? ⟨w.heap.size + 1 + 1, 0, none⟩ = some (.int .u16 e0) := by rw [hV]; go_simp
  have hr1 : V1.cell? ⟨w.heap.size + 1 + 1, 1, none⟩ = some (.int .u16 e1) := by rw [hV]; go_simp
  have hr2 : V1.cell? ⟨w.heap.size + 1 + 1, 2, none⟩ = some (.int .u16 e2) := by rw [hV]; go_simp
  have hr3 : V1.cell? ⟨w.heap.size + 1 + 1, 3, none⟩ = some (.int .u16 e3) := by rw [hV]; go_simp
  have hB : Below w.heap.size w V1 := by
    rw [hV]
    ((repeat (first | (with_reducible exact Below.refl _ _) | (with_reducible refine Below.setCell ?_ ?_ _) | (with_reducible refine Below.alloc ?_ ?_ _) | (with_reducible refine Below.drew ?_) | (with_reducible refine Below.trans ?_ (Below.mono (by assumption) ?_)))); all_goals ((try simp only [World.size_alloc, World.size_drew, World.size_setCell]); omega))
  have hsz : w.heap.size + 1 + 1 < V1.heap.size := by rw [hV]; simp
  clear hV
  (with_reducible refine (wakes_any _).mono ?_)
  rintro e W1 ⟨rfl, hb⟩
  have hdr := hdr.below hb
  have hq0 := (hb.cell (p := ⟨w.heap.size + 1, 0, none⟩) (by show w.heap.size + 1 < _; omega)).trans hq0
  have hq1 := (hb.cell (p := ⟨w.heap.size + 1, 1, none⟩) (by show w.heap.size + 1 < _; omega)).trans hq1
  have hr0 := (hb.cell (p := ⟨w.heap.size + 1 + 1, 0, none⟩) hsz).trans hr0
  have hr1 := (hb.cell (p := ⟨w.heap.size + 1 + 1, 1, none⟩) hsz).trans hr1
  have hr2 := (hb.cell (p := ⟨w.heap.size + 1 + 1, 2, none⟩) hsz).trans hr2
  have hr3 := (hb.cell (p := ⟨w.heap.size + 1 + 1, 3, none⟩) hsz).trans hr3
  have KB := Lib.hid (hB.trans (hb.mono hB.size))
  have hsz1 : w.heap.size + 1 + 1 < W1.heap.size := Nat.lt_of_lt_of_le hsz hb.size
  obtain ⟨dl, d0, d1, d2, d3, d4, d5, d6, dz⟩ := hdr
  dsimp only at d0 d1 d2 d3 d4 d5 d6
  clear hb hB hsz
  go_wp2_with fail
  (with_reducible refine (HIM.out _ KB.out).mono ?_)
  rintro e W2 ⟨rfl, hb⟩
  have hq0 := (hb.cell (p := ⟨w.heap.size + 1, 0, none⟩) (by show w.heap.size + 1 < _; omega)).trans hq0
  have hq1 := (hb.cell (p := ⟨w.heap.size + 1, 1, none⟩) (by show w.heap.size + 1 < _; omega)).trans hq1
  have hr0 := (hb.cell (p := ⟨w.heap.size + 1 + 1, 0, none⟩) hsz1).trans hr0
  have hr1 := (hb.cell (p := ⟨w.heap.size + 1 + 1, 1, none⟩) hsz1).trans hr1
  have hr2 := (hb.cell (p := ⟨w.heap.size + 1 + 1, 2, none⟩) hsz1).trans hr2
  have hr3 := (hb.cell (p := ⟨w.heap.size + 1 + 1, 3, none⟩) hsz1).trans hr3
  have KB2 := Lib.hid (KB.out.trans (hb.mono KB.out.size))
  have hsz2 : w.heap.size + 1 + 1 < W2.heap.size := Nat.lt_of_lt_of_le hsz1 hb.size
  have hsz3 : w.heap.size + 1 < W2.heap.size := by omega
  have hsz4 : w.heap.size + 1 < W2.heap.size + 1 := by omega
  have hsz5 : w.heap.size + 1 + 1 < W2.heap.size + 1 := by omega
  have a1 := HD.out.w0; have a2 := HD.out.h0; have a3 := HD.out.c0
  have b1 : 0 ≤ D.w % 6 ∧ D.w % 6 < 6 := by omega
  have b2 : 0 ≤ D.h % 6 ∧ D.h % 6 < 6 := by omega
  have b3 : 0 ≤ D.c % 4 ∧ D.c % 4 < 4 := by omega
  clear hb dl d0 d1 d2 d3 d4 d5 d6 dz KB
  go_wp2_with fail
  go_region
  obtain ⟨W3, hW3⟩ : ∃ W3, W3 = (W2.alloc (.cells #[.int .i64 (1 + D.w % 6), .int .i64 (1 + D.h % 6), .int .i64 (1 + D.c % 4), .int .i64 16, .bool D.pl, .int .i64 (padOf D.p), .string D.im.O] 31)).drew := ⟨_, rfl⟩
  rw [← hW3]
  have hP : Below W2.heap.size W2 W3 := by
    rw [hW3]
    ((repeat (first | (with_reducible exact Below.refl _ _) | (with_reducible refine Below.setCell ?_ ?_ _) | (with_reducible refine Below.alloc ?_ ?_ _) | (with_reducible refine Below.drew ?_) | (with_reducible refine Below.trans ?_ (Below.mono (by assumption) ?_)))); all_goals ((try simp only [World.size_alloc, World.size_drew, World.size_setCell]); omega))
  have M3 := Lib.hid (⟨by rw [hW3]; go_simp, by rw [hW3]; go_simp, by rw [hW3]; go_simp, by rw [hW3]; go_simp, by rw [hW3]; go_simp, by rw [hW3]; go_simp, by rw [hW3]; go_simp, by rw [hW3]; go_simp, fun o => by rw [hW3]; go_simp⟩ : HasIm W3 W2.heap.size ⟨⟨1 + D.w % 6, 1 + D.h % 6, 1 + D.c % 4, 16, D.pl, padOf D.p⟩, D.im.O⟩)
  have R3 := Lib.hid ((⟨by show w.heap.size + 1 + 1 < _; omega, fun k hk => by
    have : k = 0 ∨ k = 1 ∨ k = 2 ∨ k = 3 := by omega
    rcases this with rfl | rfl | rfl | rfl
    · exact hr0
    · exact hr1
    · exact hr2
    · exact hr3⟩ : HasU4 W2 (w.heap.size + 1 + 1) e0 e1 e2 e3).below hP)
  have KB3 := Lib.hid (KB2.out.trans (hP.mono KB2.out.size))
  have hbig : W2.heap.size < W3.heap.size := M3.out.lt
  clear hW3 hP hq0 hq1 hr0 hr1 hr2 hr3 KB2
  obtain ⟨X, hX⟩ : ∃ X, X = t0 % (1 + D.w % 6) := ⟨_, rfl⟩
  obtain ⟨Y, hY⟩ : ∃ Y, Y = t1 % (1 + D.h % 6) := ⟨_, rfl⟩
  rw [← hX, ← hY]
  have x0 : 0 ≤ X := by rw [hX]; exact Int.emod_nonneg _ (by omega)
  have x1 : X < 1 + D.w % 6 := by rw [hX]; exact Int.emod_lt_of_pos _ (by omega)
  have y0 : 0 ≤ Y := by rw [hY]; exact Int.emod_nonneg _ (by omega)
  have y1 : Y < 1 + D.h % 6 := by rw [hY]; exact Int.emod_lt_of_pos _ (by omega)
  obtain ⟨Cn, hCn⟩ : ∃ Cn : Nat, 1 + D.c % 4 = (Cn : Int) := Int.eq_ofNat_of_zero_le (by omega)
  have hC4 : Cn ≤ 4 := by omega
  have HC := Lib.hid hCn
  obtain ⟨i0, hi, hz0, hz1, hz2⟩ := info_of_int
  clear hX hY hCn
  obtain ⟨base, hbase⟩ : ∃ base, base = W3.heap.size := ⟨_, rfl⟩
  have hbz : base ≤ W3.heap.size := by omega
  have hbb : W2.heap.size < base := by omega
  clear hbase
  obtain ⟨il, im0, i1, i2, i3, i4, i5, i6, iz⟩ := M3.out
  dsimp only at im0 i1 i2 i3 i4 i5 i6
  go_wp2_with fail
  go_loopw [11, 12, 42] (fun v _ i wr => ∃ (k : Nat) (ao : Option Addr) (cv : Nat), k ≤ Cn ∧ i = .int .i64 k ∧ v = .slice ao k cv ∧ Owns wr base v ((List.range k).map fun c => four e0 e1 e2 e3 c % 65536) ∧
      HasIm wr W2.heap.size ⟨⟨1 + D.w % 6, 1 + D.h % 6, 1 + D.c % 4, 16, D.pl, padOf D.p⟩, D.im.O⟩ ∧ HasU4 wr (w.heap.size + 1 + 1) e0 e1 e2 e3 ∧ Below w.heap.size w wr ∧ base ≤ wr.heap.size) (fun _ _ i _ => Cn - (intOf i).toNat)
  case atStart => exact ⟨0, none, 0, Nat.zero_le _, rfl, rfl, Owns.nil _ _, M3.out, R3.out, KB3.out, hbz⟩
  case round =>
    obtain ⟨k, ao, cv, hk, rfl, rfl, hown, hI, hR, hB, hbs⟩ := hrel
    have HI3 := Lib.hid hI
    have HR3 := Lib.hid hR
    have HB3 := Lib.hid hB
    have HOWN := Lib.hid hown
    have hown3 := hown
    unfold Owns at hown3
    rw [List.length_map, List.length_range] at hown3
    have hlow : ∀ q, Value.ownBlock (.slice ao k cv) = some q → base ≤ q := fun q hq => (hown3.lt q hq).1
    have HLOW := Lib.hid hlow
    clear hI hB hown hlow
    by_cases hkl : k < Cn
    · have hkt : (k : Int) < 1 + D.c % 4 := by have := HC.out; omega
      have hcell := hR.at4 k (by omega)
      obtain ⟨f0, f1⟩ := four_bd he0 he1 he2 he3 k
      clear hR
      go_wp2_with (first | (at_builtin; refine wpList_append_own _ rfl _ _ 44 rfl base 3 i0 (.int .i64 0) 1 8 Try.underlying44 hi hz0 hz1 hz2 rfl (by decide) _ _ _ rfl (hown3.alloc _) ⟨wr.heap.size, 0, none⟩ 1 1 [.int .i64 (four e0 e1 e2 e3 k % 65536)] rfl rfl (cell_one_new _ _ _) (fun x hx => by simp at hx; subst hx; rfl) (by unfold maxLen; omega) (by omega) (by simp; omega) ?_; intro v' w4 hown' hgrow3 hnil3))
      go_roundw
      case rel =>
        have hO : Owns w4 base v' ((List.range (k + 1)).map fun c => four e0 e1 e2 e3 c % 65536) := by
          rw [List.range_succ, List.map_append]
          exact Owns.push (x := four e0 e1 e2 e3 k % 65536) (by rw [List.length_map, List.length_range]; exact hown')
        have hO' := hO
        obtain ⟨a4, c4, hv4, _, _, _⟩ := hO.slice
        rw [List.length_map, List.length_range] at hv4
        have hsz3 := HB3.out.size
        have hgs := hgrow3.size
        rw [World.size_alloc] at hgs
        refine ⟨k + 1, a4, c4, by omega, by go_num, hv4, hO', ?_, ?_, ?_, by omega⟩
        · exact (HI3.out.below ((Below.refl _ _).alloc (Nat.le_refl _) _)).grownBy hgrow3 (fun e => by have := HLOW.out _ e; omega)
        · exact (HR3.out.below ((Below.refl _ _).alloc (Nat.le_refl _) _)).grownBy hgrow3 (fun e => by have := HLOW.out _ e; omega)
        · exact (HB3.out.alloc (by omega) _).grown hgrow3 (by simp; omega) (fun q hq => by have := HLOW.out q hq; omega)
      case measure => simp [intOf]; omega
    · have hkk : k = Cn := by omega
      subst hkk
      obtain ⟨xs, hxs⟩ : ∃ xs, xs = (List.range k).map fun c => four e0 e1 e2 e3 c % 65536 := ⟨_, rfl⟩
      have hxl : xs.length = k := by rw [hxs]; simp
      have hmost : D.most = 65536 := by unfold Dr.most; rw [HDEEP.out]; rfl
      have hxb : ∀ v ∈ xs, 0 ≤ v ∧ v < D.most := fun v hv => by
        rw [hxs] at hv
        obtain ⟨c, _, rfl⟩ := List.mem_map.1 hv
        rw [hmost]
        exact ⟨Int.emod_nonneg _ (by omega), Int.emod_lt_of_pos _ (by omega)⟩
      have hlen : (xs.length : Int) = 1 + D.c % 4 := by rw [hxl]; exact HC.out.symm
      have eB : D.B = 16 := by unfold Dr.B; rw [HDEEP.out]; rfl
      have hset : ∀ V ao cv, Ints V ao xs → Calls Try.prog 22 #[imgV (1 + D.w % 6) (1 + D.h % 6) (1 + D.c % 4) 16 D.pl (padOf D.p) D.im.O, .int .i64 X, .int .i64 Y, .slice ao k cv] V fun e w' =>
          e = .returned (.tuple #[imgV (1 + D.w % 6) (1 + D.h % 6) (1 + D.c % 4) 16 D.pl (padOf D.p) (D.setI X Y xs).O, .int .i64 0]) ∧ Below V.heap.size V w' := fun V ao cv hi => by
        have h := Img_set D.im X Y xs ao cv V hi (by rw [hxl]; unfold maxLen; omega)
        rw [D.set_eq HD.out X Y xs x0 x1 y0 y1 hlen hxb, hxl] at h
        rw [← eB]
        exact h
      have hchk : ∀ V, Calls Try.prog 15 #[imgV (1 + D.w % 6) (1 + D.h % 6) (1 + D.c % 4) 16 D.pl (padOf D.p) (D.setI X Y xs).O] V fun e w' => e = .returned (.int .i64 0) ∧ Below V.heap.size V w' := fun V => by
        have h := Img_check (D.setI X Y xs) V
        rw [show chkR (D.setI X Y xs) = 0 from chkR_ok (imF_valid _ (D.im_ok HD.out) _)] at h
        rw [← eB]
        exact h
      have hg1 : ∀ V (i j : Nat), (i : Int) < 1 + D.w % 6 → (j : Int) < 1 + D.h % 6 → Calls Try.prog 19 #[imgV (1 + D.w % 6) (1 + D.h % 6) (1 + D.c % 4) 16 D.pl (padOf D.p) D.im.O, .int .i64 i, .int .i64 j] V
          (GotN ((List.range k).map fun c => D.fn (1 + D.c % 4) (i : Nat) (j : Nat) (c : Nat)) k V) := fun V i j h1 h2 => by
        have h := Img_get D.im i j V
        rw [D.get_im HD.out i j (by omega) h1 (by omega) h2, show (1 + D.c % 4).toNat = k by have := HC.out; omega] at h
        rw [← eB]
        exact h.gotN (by simp)
      have hg2 : ∀ V (i j : Nat), (i : Int) < 1 + D.w % 6 → (j : Int) < 1 + D.h % 6 → Calls Try.prog 19 #[imgV (1 + D.w % 6) (1 + D.h % 6) (1 + D.c % 4) 16 D.pl (padOf D.p) (D.setI X Y xs).O, .int .i64 i, .int .i64 j] V
          (GotN ((List.range k).map fun c => D.setF X Y xs (i : Nat) (j : Nat) (c : Nat)) k V) := fun V i j h1 h2 => by
        have h := Img_get (D.setI X Y xs) i j V
        rw [D.get_set HD.out X Y xs hxb i j (by omega) h1 (by omega) h2, show (1 + D.c % 4).toNat = k by have := HC.out; omega] at h
        rw [← eB]
        exact h.gotN (by simp)
      have HSET := Lib.hid hset
      have HCHK := Lib.hid hchk
      have HG1 := Lib.hid hg1
      have HG2 := Lib.hid hg2
      have hhere := D.set_here X Y xs hlen
      have HXL := Lib.hid hxl
      obtain ⟨al, cl, hsl, hints, hlo, _⟩ := HOWN.out.slice
      rw [List.length_map, List.length_range] at hsl
      cases hsl
      rw [← hxs] at hints
      have HH := Lib.hid hhere
      have HI4 := Lib.hid hints
      clear hset hchk hg1 hg2 hxb hxs hlen hmost eB hhere hxl
      have hkt : 1 + D.c % 4 ≤ (k : Int) := by have := HC.out; omega
      obtain ⟨jl, j0, j1, j2, j3, j4, j5, j6, jz⟩ := HI3.out
      dsimp only at j0 j1 j2 j3 j4 j5 j6
      go_wp2_with fail
      (with_reducible refine (HSET.out _ _ _ hints).mono ?_)
      rintro e W5 ⟨rfl, hb5⟩
      have HI5 := Lib.hid (HI3.out.below hb5)
      have HX5 := Lib.hid (hints.below hb5)
      have HB5 := Lib.hid (HB3.out.trans (hb5.mono HB3.out.size))
      have hs5 : W2.heap.size < W5.heap.size := HI5.out.lt
      clear jl j0 j1 j2 j3 j4 j5 j6 jz hb5 hints hlo HI4 HI3 HR3 HB3 HOWN HLOW hown3 hR
      go_wp2_with fail
      (with_reducible refine calls_gen ?_)
      intro V6 hV
      have hP : Below W5.heap.size W5 V6 := by
        rw [hV]
        ((repeat (first | (with_reducible exact Below.refl _ _) | (with_reducible refine Below.setCell ?_ ?_ _) | (with_reducible refine Below.alloc ?_ ?_ _) | (with_reducible refine Below.drew ?_) | (with_reducible refine Below.trans ?_ (Below.mono (by assumption) ?_)))); all_goals ((try simp only [World.size_alloc, World.size_drew, World.size_setCell]); omega))
      have HS6 : HasIm V6 W5.heap.size ⟨⟨1 + D.w % 6, 1 + D.h % 6, 1 + D.c % 4, 16, D.pl, padOf D.p⟩, (D.setI X Y xs).O⟩ := ⟨by rw [hV]; go_simp, by rw [hV]; go_simp, by rw [hV]; go_simp, by rw [hV]; go_simp, by rw [hV]; go_simp, by rw [hV]; go_simp, by rw [hV]; go_simp, by rw [hV]; go_simp, fun o => by rw [hV]; go_simp⟩
      clear hV
      (with_reducible refine (HCHK.out V6).mono ?_)
      rintro e W6 ⟨rfl, hb6⟩
      have hb56 := hP.trans (hb6.mono hP.size)
      have HM := Lib.hid (HI5.out.below hb56)
      have HS := Lib.hid (HS6.below hb6)
      have HX := Lib.hid (HX5.out.below hb56)
      have HB6 := Lib.hid (HB5.out.trans (hb56.mono HB5.out.size))
      clear hP hb6 hb56 HS6
      obtain ⟨ml, m0, m1, m2, m3, m4, m5, m6, mz⟩ := HM.out
      dsimp only at m0 m1 m2 m3 m4 m5 m6
      obtain ⟨Wn, hWn⟩ : ∃ Wn : Nat, 1 + D.w % 6 = (Wn : Int) := Int.eq_ofNat_of_zero_le (by omega)
      obtain ⟨Hn, hHn⟩ : ∃ Hn : Nat, 1 + D.h % 6 = (Hn : Int) := Int.eq_ofNat_of_zero_le (by omega)
      have HW := Lib.hid hWn
      have HHn := Lib.hid hHn
      clear hWn hHn
      go_wp2_with fail
      go_loopw [15, 16, 17, 18, 19, 20, 72] (fun _ _ _ _ _ _ j wr => ∃ J : Nat, J ≤ Hn ∧ j = .int .i64 J ∧ Below W6.heap.size W6 wr) (fun _ _ _ _ _ _ j _ => Hn - (intOf j).toNat)
      case atStart => exact ⟨0, Nat.zero_le _, rfl, Below.refl _ _⟩
      case round =>
        obtain ⟨J, hJ, rfl, hB7⟩ := hrel
        have HB7 := Lib.hid hB7
        clear ml m0 m1 m2 m3 m4 m5 m6 mz
        obtain ⟨ml, m0, m1, m2, m3, m4, m5, m6, mz⟩ := HM.out.below hB7
        dsimp only at m0 m1 m2 m3 m4 m5 m6
        clear hB7
        by_cases hJl : J < Hn
        · have hJt : (J : Int) < 1 + D.h % 6 := by have := HHn.out; omega
          go_wp2_with fail
          go_loopw [16, 17, 18, 19, 20, 77] (fun _ _ _ _ _ i wr => ∃ I : Nat, I ≤ Wn ∧ i = .int .i64 I ∧ Below W6.heap.size W6 wr) (fun _ _ _ _ _ i _ => Wn - (intOf i).toNat)
          case atStart => exact ⟨0, Nat.zero_le _, rfl, HB7.out⟩
          case round =>
            obtain ⟨I, hI, rfl, hB8⟩ := hrel
            have HB8 := Lib.hid hB8
            clear ml m0 m1 m2 m3 m4 m5 m6 mz
            obtain ⟨ml, m0, m1, m2, m3, m4, m5, m6, mz⟩ := HM.out.below hB8
            dsimp only at m0 m1 m2 m3 m4 m5 m6
            clear hB8
            by_cases hIl : I < Wn
            · have hIt : (I : Int) < 1 + D.w % 6 := by have := HW.out; omega
              go_wp2_with fail
              (with_reducible refine (HG1.out _ I J hIt hJt).mono ?_)
              rintro e W7 ⟨ga, gc, rfl, hga, hb7⟩
              have HB9 := Lib.hid (HB8.out.trans (hb7.mono HB8.out.size))
              have HGA := Lib.hid hga
              clear hga hb7
              obtain ⟨sl, s0, s1, s2, s3, s4, s5, s6, sz⟩ := HS.out.below HB9.out
              dsimp only at s0 s1 s2 s3 s4 s5 s6
              go_wp2_with fail
              (with_reducible refine (HG2.out _ I J hIt hJt).mono ?_)
              rintro e W8 ⟨gb, gd, rfl, hgb, hb8⟩
              have HB10 := Lib.hid (HB9.out.trans (hb8.mono HB9.out.size))
              have HGA2 := Lib.hid (HGA.out.below hb8)
              have HGB := Lib.hid hgb
              have HX2 := Lib.hid (HX.out.below HB10.out)
              clear hgb hb8 sl s0 s1 s2 s3 s4 s5 s6 sz
              cases hIX : ((I : Int) == X)
              · have heq := equal_same ((List.range k).map fun c => D.fn (1 + D.c % 4) (I : Nat) (J : Nat) (c : Nat)) k (by simp) hC4 ga gb gc gd W8 HGA2.out (by
                  have h := HGB.out
                  rwa [D.set_there X Y xs I J (fun hh => by rw [hh.1] at hIX; simp at hIX) k] at h)
                have HE := Lib.hid heq
                clear heq
                go_wp2_with fail
                (with_reducible refine HE.out.mono ?_)
                rintro e W9 ⟨rfl, hb9⟩
                have HB11 := Lib.hid (HB10.out.trans (hb9.mono HB10.out.size))
                clear hb9
                go_wp2_with fail
                go_roundw
                case rel => exact ⟨I + 1, by omega, by go_num, HB11.out⟩
                case measure => simp [intOf]; omega
              · have eIX : (I : Int) = X := by simpa using hIX
                cases hJY : ((J : Int) == Y)
                · have heq := equal_same ((List.range k).map fun c => D.fn (1 + D.c % 4) (I : Nat) (J : Nat) (c : Nat)) k (by simp) hC4 ga gb gc gd W8 HGA2.out (by
                    have h := HGB.out
                    rwa [D.set_there X Y xs I J (fun hh => by rw [hh.2] at hJY; simp at hJY) k] at h)
                  have HE := Lib.hid heq
                  clear heq eIX
                  go_wp2_with fail
                  (with_reducible refine HE.out.mono ?_)
                  rintro e W9 ⟨rfl, hb9⟩
                  have HB11 := Lib.hid (HB10.out.trans (hb9.mono HB10.out.size))
                  clear hb9
                  go_wp2_with fail
                  go_roundw
                  case rel => exact ⟨I + 1, by omega, by go_num, HB11.out⟩
                  case measure => simp [intOf]; omega
                · have eJY : (J : Int) = Y := by simpa using hJY
                  have heq := equal_same xs k HXL.out hC4 ao gb cv gd W8 HX2.out (by
                    have h := HGB.out
                    have hh := HH.out
                    rw [show (1 + D.c % 4).toNat = k by have := HC.out; omega] at hh
                    rw [eIX, eJY, hh] at h
                    exact h)
                  have HE := Lib.hid heq
                  clear heq eIX eJY
                  go_wp2_with fail
                  (with_reducible refine HE.out.mono ?_)
                  rintro e W9 ⟨rfl, hb9⟩
                  have HB11 := Lib.hid (HB10.out.trans (hb9.mono HB10.out.size))
                  clear hb9
                  go_wp2_with fail
                  go_roundw
                  case rel => exact ⟨I + 1, by omega, by go_num, HB11.out⟩
                  case measure => simp [intOf]; omega
            · have hIt : 1 + D.w % 6 ≤ (I : Int) := by have := HW.out; omega
              go_wp2_with fail
              go_roundw
              case rel => exact ⟨J + 1, by omega, by go_num, HB8.out⟩
              case measure => simp [intOf]; omega
        · have hJt : 1 + D.h % 6 ≤ (J : Int) := by have := HHn.out; omega
          obtain ⟨sl, s0, s1, s2, s3, s4, s5, s6, sz⟩ := HS.out.below HB7.out
          dsimp only at s0 s1 s2 s3 s4 s5 s6
          have hne : W2.heap.size ≠ W5.heap.size := by omega
          go_wp2_with fail
          refine bodyPost_ret (v := .bool true) ?_ rfl ?_
          · simp [results, Try.results5, go_sem]
          refine ⟨rfl, ?_⟩
          have hB := HB6.out.trans (HB7.out.mono HB6.out.size)
          exact hB.setCell (by show _ ≤ W5.heap.size; omega) _

end Go.Proofs.Ytphfbjeaklpddaa
