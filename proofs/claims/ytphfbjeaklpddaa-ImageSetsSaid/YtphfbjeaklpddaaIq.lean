/-
  Layer 42: open, its loop over the octets.
-/
import Derived.Test.YtphfbjeaklpddaaIo
namespace Go.Proofs.Ytphfbjeaklpddaa
open Go.RowKit

set_option maxHeartbeats 2000000 in
theorem open_bad3 (L : Lay) (O : ByteArray) (w : World) (hok : L.ok) (hs : (O.size : Int) = L.len) (p0 : Nat) (hp : (p0 : Int) < L.len ∧ L.pad p0 ∧ octAt O p0 ≠ 0) :
    Calls Try.prog 37 #[L.img O] w fun e w' => e = .returned (.tuple #[.pointer none, .int .i64 420]) ∧ Below w.heap.size w w' := by
  have h := (shpB_iff _ _ _ _ _).2 hok
  have hr := L.rows_bd hok
  have hst := L.row_str hok
  obtain ⟨W, H, C, B, pl, P⟩ := L
  unfold Lay.img
  unfold Lay.len Lay.rows Lay.str at *
  unfold Lay.pad Lay.row Lay.str at *
  unfold Lay.ok at *
  dsimp only at h hs hok hr hst hp ⊢
  have hne : ((O.size : Int) != rowsS H C pl * strS W C B pl P) = false := by rw [hs]; simp
  obtain ⟨r1, r2⟩ := hr
  obtain ⟨s0, s1, s2⟩ := hst
  obtain ⟨m1, m2⟩ := mul_bd (a := rowsS H C pl) (b := strS W C B pl P) (A := 256) (B := 520) (by omega) r2 (by omega) s2
  obtain ⟨cap, CF, hconv, hCF⟩ := conv_bytes (P := Try.prog) 9 70 O (by kernel_rfl) (by kernel_rfl) (by kernel_rfl)
  have hsz : (O.size : Int) ≤ 133120 := by omega
  have HS := Lib.hid hs
  have HP := Lib.hid hp
  have HC := Lib.hid hCF
  clear hs hp hCF
  go_enter Try.func37, Try.ntmps37
  go_wp2
  go_step3
  go_wp2
  refine wp_region_grow (by kernel_rfl) (by kernel_rfl) ?_
  repeat (go_big_quiet_step (first
    | (go_at_call 63; exact calls_grow (shaped_any _ _ _ _ _ _ _ _))
    | (go_at_call 64; exact calls_grow (vrows_any _ W H C B pl P _ (Vw.below ⟨by go_simp, by go_simp, by go_simp, by go_simp, by go_simp, by go_simp⟩ (grow_below _ _)) hok))
    | (go_at_call 38; exact calls_grow (vstride_any _ W H C B pl P _ (Vw.below ⟨by go_simp, by go_simp, by go_simp, by go_simp, by go_simp, by go_simp⟩ (grow_below _ _)) hok))))
  refine wpQuiet_nil ?_
  intro _ hw'
  obtain ⟨nq, hw''⟩ := hw'
  subst hw''
  have hb1 := grow_below ((w.alloc (.cells #[.int .i64 W, .int .i64 H, .int .i64 C, .int .i64 B, .bool pl, .int .i64 P, .string O] 31)).alloc (.cells #[.int .i64 W, .int .i64 H, .int .i64 C, .int .i64 B, .bool pl, .int .i64 P, .string O, .slice none 0 0] 92)) nq
  generalize grow _ nq = w1 at hb1 ⊢
  obtain ⟨hc1, hf1, hz1⟩ := after hb1
  simp only [World.size_alloc] at hz1
  have hx1 : w.heap.size + 1 < w1.heap.size := by omega
  have hy1 : w.heap.size < w1.heap.size := by omega
  go_wp2_with (first
    | (go_at_call 65; refine (vrow_any _ W H C B pl P _ ⟨by go_simp, by go_simp, by go_simp, by go_simp, by go_simp, by go_simp⟩ hok).mono ?_; rintro e w2 ⟨rfl, hb2⟩; obtain ⟨hc2, hf2, hz2⟩ := after hb2; simp only [World.size_alloc, World.size_drew, World.size_setCell] at hz2; have hx2 : w.heap.size + 1 < w2.heap.size := (by omega); have hy2 : w1.heap.size < w2.heap.size := (by omega))
    | (go_at_call 38; refine (vstride_any _ W H C B pl P _ ⟨by go_simp, by go_simp, by go_simp, by go_simp, by go_simp, by go_simp⟩ hok).mono ?_; rintro e w3 ⟨rfl, hb3⟩; obtain ⟨hc3, hf3, hz3⟩ := after hb3; have hx3 : w.heap.size + 1 < w3.heap.size := (by omega); have hy3 : w1.heap.size < w3.heap.size := (by omega)))
  have hB : Below w.heap.size w w3 := by
    refine Below.trans (b := ((w1.setCell ⟨w.heap.size + 1, 7, none⟩ (.slice (some ⟨w1.heap.size, 0, none⟩) O.size (cap w1))).alloc (.cells (CF w1) 5 ((CF w1).size, (CF w1).size + 1))).drew) ?_ ((hb2.trans (hb3.mono hb2.size)).mono (by simp only [World.size_alloc, World.size_drew, World.size_setCell]; omega))
    refine Below.drew (Below.alloc (Below.setCell (Below.trans ?_ (hb1.mono (by simp only [World.size_alloc]; omega))) (by simp) _) (by simp only [World.size_setCell]; omega) _)
    exact ((Below.refl _ _).alloc (Nat.le_refl _) _).alloc (by simp) _
  have hcell : ∀ j : Nat, j < O.size → w3.cell? ⟨w1.heap.size, j, none⟩ = some (.int .u8 (octAt O j)) := by
    intro j hj
    rw [hc3 _ _ (by omega), hc2 _ _ (by simp only [World.size_alloc, World.size_drew, World.size_setCell]; omega)]
    show ((w1.setCell ⟨w.heap.size + 1, 7, none⟩ (.slice (some ⟨w1.heap.size, 0, none⟩) O.size (cap w1))).alloc (.cells (CF w1) 5 ((CF w1).size, (CF w1).size + 1))).cell? ⟨w1.heap.size, j, none⟩ = _
    have := World.cell?_alloc_mark (w1.setCell ⟨w.heap.size + 1, 7, none⟩ (.slice (some ⟨w1.heap.size, 0, none⟩) O.size (cap w1))) (CF w1) 5 ((CF w1).size, (CF w1).size + 1) j
    rw [World.size_setCell] at this
    rw [this]
    exact HC.out w1 j hj
  have hslice : w3.cell? ⟨w.heap.size + 1, 7, none⟩ = some (.slice (some ⟨w1.heap.size, 0, none⟩) O.size (cap w1)) := by
    rw [hc3 _ _ (by omega), hc2 _ _ (by simp only [World.size_alloc, World.size_drew, World.size_setCell]; omega)]
    go_simp
  have HCELL := Lib.hid hcell
  have HB := Lib.hid hB
  clear hc1 hc2 hc3 hf1 hf2 hf3 hb1 hb2 hb3 hB hcell
  go_step3
  go_wp2
  go_loop [41] (fun i => ∃ k : Nat, k ≤ p0 ∧ i = .int .i64 k) (fun i => O.size - (intOf i).toNat)
  case atStart => exact ⟨0, Nat.zero_le _, rfl⟩
  case round =>
    obtain ⟨k, hk, rfl⟩ := hrel
    have hp1 := HP.out.1
    have hs' := HS.out
    have hlt : k < O.size := by omega
    clear hp1 hs'
    have hcell := HCELL.out k hlt
    have hrange := octAt_range O k
    obtain ⟨g0, g1⟩ := hrange
    by_cases hpad : (k : Int) % strS W C B pl P < rowS W C B pl
    · have hne0 : k ≠ p0 := by rintro rfl; have := HP.out.2.1; omega
      have hk' : k < p0 := by omega
      clear hne0
      go_wp2
      go_round
      case rel => exact ⟨k + 1, by omega, by go_num⟩
      case measure => simp [intOf]; omega
    · cases h0 : (octAt O k != 0)
      · have hne0 : k ≠ p0 := by rintro rfl; have := HP.out.2.2; rw [bne_eq_false_iff_eq] at h0; exact this h0
        have hk' : k < p0 := by omega
        clear hne0
        go_wp2
        go_round
        case rel => exact ⟨k + 1, by omega, by go_num⟩
        case measure => simp [intOf]; omega
      · go_wp2
        try rw [Exit.noGoto_ret]
        go_ret2
        exact ⟨rfl, HB.out⟩

/-- what open does to a valid image -/
def Opened (L : Lay) (O : ByteArray) (w : World) : Ending → World → Prop := fun e w' =>
  ∃ b b2 : Nat, e = .returned (.tuple #[.pointer (some ⟨b, 0, none⟩), .int .i64 0]) ∧ View w' w.heap.size b b2 L (octAt O) ∧ Below w.heap.size w w'

set_option maxHeartbeats 2000000 in
theorem open_good (L : Lay) (O : ByteArray) (w : World) (hok : L.ok) (hs : (O.size : Int) = L.len) (hp : ∀ p, 0 ≤ p → p < L.len → L.pad p → octAt O p = 0) :
    Calls Try.prog 37 #[L.img O] w (Opened L O w) := by
  have h := (shpB_iff _ _ _ _ _).2 hok
  have hr := L.rows_bd hok
  have hst := L.row_str hok
  obtain ⟨W, H, C, B, pl, P⟩ := L
  unfold Lay.img
  unfold Lay.len Lay.rows Lay.str at *
  unfold Lay.pad Lay.row Lay.str at *
  unfold Lay.ok at *
  dsimp only at h hs hok hr hst hp ⊢
  have hne : ((O.size : Int) != rowsS H C pl * strS W C B pl P) = false := by rw [hs]; simp
  obtain ⟨r1, r2⟩ := hr
  obtain ⟨s0, s1, s2⟩ := hst
  obtain ⟨m1, m2⟩ := mul_bd (a := rowsS H C pl) (b := strS W C B pl P) (A := 256) (B := 520) (by omega) r2 (by omega) s2
  obtain ⟨cap, CF, hconv, hCF⟩ := conv_bytes (P := Try.prog) 9 70 O (by kernel_rfl) (by kernel_rfl) (by kernel_rfl)
  have hsz : (O.size : Int) ≤ 133120 := by omega
  have HS := Lib.hid hs
  have HP := Lib.hid hp
  have HC := Lib.hid hCF
  clear hs hp hCF
  go_enter Try.func37, Try.ntmps37
  go_wp2
  go_step3
  go_wp2
  refine wp_region_grow (by kernel_rfl) (by kernel_rfl) ?_
  repeat (go_big_quiet_step (first
    | (go_at_call 63; exact calls_grow (shaped_any _ _ _ _ _ _ _ _))
    | (go_at_call 64; exact calls_grow (vrows_any _ W H C B pl P _ (Vw.below ⟨by go_simp, by go_simp, by go_simp, by go_simp, by go_simp, by go_simp⟩ (grow_below _ _)) hok))
    | (go_at_call 38; exact calls_grow (vstride_any _ W H C B pl P _ (Vw.below ⟨by go_simp, by go_simp, by go_simp, by go_simp, by go_simp, by go_simp⟩ (grow_below _ _)) hok))))
  refine wpQuiet_nil ?_
  intro _ hw'
  obtain ⟨nq, hw''⟩ := hw'
  subst hw''
  have hb1 := grow_below ((w.alloc (.cells #[.int .i64 W, .int .i64 H, .int .i64 C, .int .i64 B, .bool pl, .int .i64 P, .string O] 31)).alloc (.cells #[.int .i64 W, .int .i64 H, .int .i64 C, .int .i64 B, .bool pl, .int .i64 P, .string O, .slice none 0 0] 92)) nq
  generalize grow _ nq = w1 at hb1 ⊢
  obtain ⟨hc1, hf1, hz1⟩ := after hb1
  simp only [World.size_alloc] at hz1
  have hx1 : w.heap.size + 1 < w1.heap.size := by omega
  have hy1 : w.heap.size < w1.heap.size := by omega
  go_wp2_with (first
    | (go_at_call 65; refine (vrow_any _ W H C B pl P _ ⟨by go_simp, by go_simp, by go_simp, by go_simp, by go_simp, by go_simp⟩ hok).mono ?_; rintro e w2 ⟨rfl, hb2⟩; obtain ⟨hc2, hf2, hz2⟩ := after hb2; simp only [World.size_alloc, World.size_drew, World.size_setCell] at hz2; have hx2 : w.heap.size + 1 < w2.heap.size := (by omega); have hy2 : w1.heap.size < w2.heap.size := (by omega))
    | (go_at_call 38; refine (vstride_any _ W H C B pl P _ ⟨by go_simp, by go_simp, by go_simp, by go_simp, by go_simp, by go_simp⟩ hok).mono ?_; rintro e w3 ⟨rfl, hb3⟩; obtain ⟨hc3, hf3, hz3⟩ := after hb3; have hx3 : w.heap.size + 1 < w3.heap.size := (by omega); have hy3 : w1.heap.size < w3.heap.size := (by omega)))
  have hB : Below w.heap.size w w3 := by
    refine Below.trans (b := ((w1.setCell ⟨w.heap.size + 1, 7, none⟩ (.slice (some ⟨w1.heap.size, 0, none⟩) O.size (cap w1))).alloc (.cells (CF w1) 5 ((CF w1).size, (CF w1).size + 1))).drew) ?_ ((hb2.trans (hb3.mono hb2.size)).mono (by simp only [World.size_alloc, World.size_drew, World.size_setCell]; omega))
    refine Below.drew (Below.alloc (Below.setCell (Below.trans ?_ (hb1.mono (by simp only [World.size_alloc]; omega))) (by simp) _) (by simp only [World.size_setCell]; omega) _)
    exact ((Below.refl _ _).alloc (Nat.le_refl _) _).alloc (by simp) _
  have hcell : ∀ j : Nat, j < O.size → w3.cell? ⟨w1.heap.size, j, none⟩ = some (.int .u8 (octAt O j)) := by
    intro j hj
    rw [hc3 _ _ (by omega), hc2 _ _ (by simp only [World.size_alloc, World.size_drew, World.size_setCell]; omega)]
    show ((w1.setCell ⟨w.heap.size + 1, 7, none⟩ (.slice (some ⟨w1.heap.size, 0, none⟩) O.size (cap w1))).alloc (.cells (CF w1) 5 ((CF w1).size, (CF w1).size + 1))).cell? ⟨w1.heap.size, j, none⟩ = _
    have := World.cell?_alloc_mark (w1.setCell ⟨w.heap.size + 1, 7, none⟩ (.slice (some ⟨w1.heap.size, 0, none⟩) O.size (cap w1))) (CF w1) 5 ((CF w1).size, (CF w1).size + 1) j
    rw [World.size_setCell] at this
    rw [this]
    exact HC.out w1 j hj
  have hslice : w3.cell? ⟨w.heap.size + 1, 7, none⟩ = some (.slice (some ⟨w1.heap.size, 0, none⟩) O.size (cap w1)) := by
    rw [hc3 _ _ (by omega), hc2 _ _ (by simp only [World.size_alloc, World.size_drew, World.size_setCell]; omega)]
    go_simp
  have hview : View w3 w.heap.size (w.heap.size + 1) w1.heap.size ⟨W, H, C, B, pl, P⟩ (octAt O) := by
    have c0 : ∀ o, w3.cell? ⟨w.heap.size + 1, o, none⟩ = ((w1.setCell ⟨w.heap.size + 1, 7, none⟩ (.slice (some ⟨w1.heap.size, 0, none⟩) O.size (cap w1))).alloc (.cells (CF w1) 5 ((CF w1).size, (CF w1).size + 1))).cell? ⟨w.heap.size + 1, o, none⟩ := fun o => by
      rw [hc3 _ _ (by omega), hc2 _ _ (by simp only [World.size_alloc, World.size_drew, World.size_setCell]; omega)]; rfl
    have f0 : ∀ o, w3.frozen? ⟨w.heap.size + 1, o, none⟩ = ((w1.setCell ⟨w.heap.size + 1, 7, none⟩ (.slice (some ⟨w1.heap.size, 0, none⟩) O.size (cap w1))).alloc (.cells (CF w1) 5 ((CF w1).size, (CF w1).size + 1))).frozen? ⟨w.heap.size + 1, o, none⟩ := fun o => by
      rw [hf3 _ _ (by omega), hf2 _ _ (by simp only [World.size_alloc, World.size_drew, World.size_setCell]; omega)]; rfl
    have hs' := HS.out
    have e1 : (Lay.len ⟨W, H, C, B, pl, P⟩).toNat = O.size := by show (rowsS H C pl * strS W C B pl P).toNat = _; omega
    refine ⟨⟨?_, ?_, ?_, ?_, ?_, ?_⟩, fun o ho => ?_, ⟨O, ?_⟩, ⟨cap w1, ?_⟩, fun q hq => ⟨hcell q (by omega), ?_⟩, by omega, by omega, by omega⟩
    · rw [c0]; go_simp
    · rw [c0]; go_simp
    · rw [c0]; go_simp
    · rw [c0]; go_simp
    · rw [c0]; go_simp
    · rw [c0]; go_simp
    · rw [f0, World.frozen?_alloc_old _ _ _ (by simp only [World.size_setCell]; omega), World.frozen?_setCell, hf1 _ _ (by simp only [World.size_alloc]; omega)]; simp
    · rw [c0]; go_simp
    · rw [e1]; exact hslice
    · rw [hf3 _ _ (by omega), hf2 _ _ (by simp only [World.size_alloc, World.size_drew, World.size_setCell]; omega)]
      show ((w1.setCell ⟨w.heap.size + 1, 7, none⟩ (.slice (some ⟨w1.heap.size, 0, none⟩) O.size (cap w1))).alloc (.cells (CF w1) 5 ((CF w1).size, (CF w1).size + 1))).frozen? ⟨w1.heap.size, q, none⟩ = _
      have := World.frozen?_alloc_mark (w1.setCell ⟨w.heap.size + 1, 7, none⟩ (.slice (some ⟨w1.heap.size, 0, none⟩) O.size (cap w1))) (CF w1) 5 (CF w1).size ((CF w1).size + 1) q
      rw [World.size_setCell] at this
      rw [this]
      have h1 := HC.out w1 q (by omega)
      have h2 := (Array.getElem?_eq_some_iff.1 h1).1
      simp; omega
  have HV := Lib.hid hview
  clear hview
  have HCELL := Lib.hid hcell
  have HB := Lib.hid hB
  clear hc1 hc2 hc3 hf1 hf2 hf3 hb1 hb2 hb3 hB hcell
  go_step3
  go_wp2
  go_loop [41] (fun i => ∃ k : Nat, k ≤ O.size ∧ i = .int .i64 k) (fun i => O.size - (intOf i).toNat)
  case atStart => exact ⟨0, Nat.zero_le _, rfl⟩
  case round =>
    obtain ⟨k, hk, rfl⟩ := hrel
    by_cases hlt : k < O.size
    · have hcell := HCELL.out k hlt
      by_cases hpad : (k : Int) % strS W C B pl P < rowS W C B pl
      · go_wp2
        go_round
        case rel => exact ⟨k + 1, by omega, by go_num⟩
        case measure => simp [intOf]; omega
      · have h0 : octAt O k = 0 := HP.out k (by omega) (by have := HS.out; omega) (by omega)
        rw [h0] at hcell
        clear h0
        go_wp2
        go_round
        case rel => exact ⟨k + 1, by omega, by go_num⟩
        case measure => simp [intOf]; omega
    · go_wp2
      try rw [Exit.noGoto_ret]
      go_ret2
      exact ⟨w.heap.size + 1, w1.heap.size, rfl, HV.out, HB.out⟩

end Go.Proofs.Ytphfbjeaklpddaa
