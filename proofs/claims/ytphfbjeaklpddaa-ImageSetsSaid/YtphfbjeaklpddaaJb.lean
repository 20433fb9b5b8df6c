/-
  Layer 42: blank, closed.
-/
import Derived.Test.YtphfbjeaklpddaaJa
namespace Go.Proofs.Ytphfbjeaklpddaa
open Go.RowKit

/-- the string of n octets -/
def octS (n : Nat) (g : Int → Int) : ByteArray := strOfNums ((List.range n).map fun p => g (p : Nat))

theorem info_u8 : (Try.prog.info? 5).map (fun i => (i.zero, i.size, i.bytes)) = some (some (.int .u8 0), 1, 1) := by kernel_rfl

set_option maxHeartbeats 1000000 in
theorem blank_bad (L : Lay) (O : ByteArray) (w : World) (h : shpB L.W L.H L.C L.B L.P = false) :
    Calls Try.prog 41 #[L.img O] w fun e w' => e = .returned (.tuple #[.pointer none, .int .i64 2]) ∧ Below w.heap.size w w' := by
  obtain ⟨W, H, C, B, pl, P⟩ := L
  unfold Lay.img
  dsimp only at h ⊢
  go_enter Try.func41, Try.ntmps41
  go_wp2_with (go_at_call 63; refine (shaped_any _ _ _ _ _ _ _ _).mono ?_; rintro e w1 ⟨rfl, hb1⟩)
  go_ret2
  refine ⟨rfl, (Below.trans ?_ (hb1.mono ?_))⟩
  · exact (Below.refl _ _).alloc (Nat.le_refl _) _
  · simp

/-- what blank does to right numbers -/
def Blanked (L : Lay) (w : World) : Ending → World → Prop := fun e w' =>
  ∃ b b2 : Nat, e = .returned (.tuple #[.pointer (some ⟨b, 0, none⟩), .int .i64 0]) ∧ View w' w.heap.size b b2 L (fun _ => 0) ∧ Below w.heap.size w w'

set_option maxHeartbeats 2000000 in
theorem blank_good (L : Lay) (O : ByteArray) (w : World) (hok : L.ok) :
    Calls Try.prog 41 #[L.img O] w (Blanked L w) := by
  have h := (shpB_iff _ _ _ _ _).2 hok
  have hr := L.rows_bd hok
  have hst := L.row_str hok
  have hmk := run_make_row' (P := Try.prog) 70 5 (.int .u8 0) 1 Try.underlying70 info_u8 rfl .i64 .i64 L.len.toNat (by have := L.len_bd hok; omega) (by have := L.len_bd hok; omega)
  rw [show ((L.len.toNat : Nat) : Int) = rowsS L.H L.C L.pl * strS L.W L.C L.B L.pl L.P by have := L.len_bd hok; unfold Lay.len Lay.rows Lay.str at *; omega] at hmk
  obtain ⟨N, hN⟩ : ∃ N, N = L.len.toNat := ⟨_, rfl⟩
  rw [← hN] at hmk
  have HN := Lib.hid hN
  clear hN
  obtain ⟨W, H, C, B, pl, P⟩ := L
  unfold Lay.img
  unfold Lay.rows Lay.str at *
  unfold Lay.row at *
  unfold Lay.ok at *
  dsimp only at h hok hr hst hmk ⊢
  obtain ⟨r1, r2⟩ := hr
  obtain ⟨s0, s1, s2⟩ := hst
  obtain ⟨m1, m2⟩ := mul_bd (a := rowsS H C pl) (b := strS W C B pl P) (A := 256) (B := 520) (by omega) r2 (by omega) s2
  go_enter Try.func41, Try.ntmps41
  go_wp2_with (first
    | (go_at_call 63; refine (shaped_any _ _ _ _ _ _ _ _).mono ?_; rintro e w1 ⟨rfl, hb1⟩; obtain ⟨hc1, hf1, hz1⟩ := after hb1; simp only [World.size_alloc] at hz1; have hx1 : w.heap.size < w1.heap.size := (by omega))
    | (go_at_call 64; refine (vrows_any _ W H C B pl P _ ⟨by go_simp, by go_simp, by go_simp, by go_simp, by go_simp, by go_simp⟩ hok).mono ?_; rintro e w2 ⟨rfl, hb2⟩; obtain ⟨hc2, hf2, hz2⟩ := after hb2; simp only [World.size_alloc] at hz2; have hx2 : w.heap.size < w2.heap.size := (by omega); have hy2 : w1.heap.size < w2.heap.size := (by omega))
    | (go_at_call 38; refine (vstride_any _ W H C B pl P _ ⟨by go_simp, by go_simp, by go_simp, by go_simp, by go_simp, by go_simp⟩ hok).mono ?_; rintro e w3 ⟨rfl, hb3⟩; obtain ⟨hc3, hf3, hz3⟩ := after hb3; have hx3 : w.heap.size < w3.heap.size := (by omega); have hy3 : w1.heap.size < w3.heap.size := (by omega)))
  have hB : Below w.heap.size w ((w3.alloc (.cells (madeCells #[.int .u8 0] N) 5)).setCell ⟨w1.heap.size, 7, none⟩ (.slice (some ⟨w3.heap.size, 0, none⟩) N N)) := by
    refine Below.setCell (Below.alloc ?_ (by omega) _) (by show _ ≤ w1.heap.size; omega) _
    refine Below.trans (b := w1.alloc (.cells #[.int .i64 W, .int .i64 H, .int .i64 C, .int .i64 B, .bool pl, .int .i64 P, .string O, .slice none 0 0] 92)) (Below.alloc (Below.trans ((Below.refl _ _).alloc (Nat.le_refl _) _) (hb1.mono (by simp))) (by omega) _) ((hb2.trans (hb3.mono hb2.size)).mono (by simp only [World.size_alloc]; omega))
  have hv : View ((w3.alloc (.cells (madeCells #[.int .u8 0] N) 5)).setCell ⟨w1.heap.size, 7, none⟩ (.slice (some ⟨w3.heap.size, 0, none⟩) N N)) w.heap.size w1.heap.size w3.heap.size ⟨W, H, C, B, pl, P⟩ (fun _ => 0) := by
    have hN' := HN.out
    have c7 : w3.cell? ⟨w1.heap.size, 7, none⟩ = some (.slice none 0 0) := by
      rw [hc3 _ _ (by omega), hc2 _ _ (by simp only [World.size_alloc]; omega)]; go_simp
    have c0 : ∀ o, o ≠ 7 → ((w3.alloc (.cells (madeCells #[.int .u8 0] N) 5)).setCell ⟨w1.heap.size, 7, none⟩ (.slice (some ⟨w3.heap.size, 0, none⟩) N N)).cell? ⟨w1.heap.size, o, none⟩ = (w1.alloc (.cells #[.int .i64 W, .int .i64 H, .int .i64 C, .int .i64 B, .bool pl, .int .i64 P, .string O, .slice none 0 0] 92)).cell? ⟨w1.heap.size, o, none⟩ := fun o ho => by
      rw [World.cell?_setCell_other _ _ _ _ (by intro e; have := congrArg Addr.off e; dsimp only at this; omega), World.cell?_alloc_lt _ _ _ (by show w1.heap.size < _; omega), hc3 _ _ (by omega), hc2 _ _ (by simp only [World.size_alloc]; omega)]
    refine ⟨⟨?_, ?_, ?_, ?_, ?_, ?_⟩, fun o ho => ?_, ⟨O, ?_⟩, ⟨N, ?_⟩, fun q hq => ⟨?_, ?_⟩, by omega, by omega, by omega⟩
    · rw [c0 _ (by decide)]; go_simp
    · rw [c0 _ (by decide)]; go_simp
    · rw [c0 _ (by decide)]; go_simp
    · rw [c0 _ (by decide)]; go_simp
    · rw [c0 _ (by decide)]; go_simp
    · rw [c0 _ (by decide)]; go_simp
    · rw [World.frozen?_setCell, World.frozen?_alloc_old _ _ _ (by show w1.heap.size ≠ _; omega), hf3 _ _ (by omega), hf2 _ _ (by simp only [World.size_alloc]; omega)]; simp
    · rw [c0 _ (by decide)]; go_simp
    · rw [World.cell?_setCell_same _ _ _ ((World.cell?_alloc_lt _ _ _ (by show w1.heap.size < _; omega)).trans c7), hN']
    · rw [World.cell?_setCell_other _ _ _ _ (by intro e; have := congrArg Addr.block e; dsimp only at this; omega), World.cell?_alloc_new]
      have : q < N := by omega
      simp [madeCells, this, Nat.mod_one]
    · rw [World.frozen?_setCell]; exact World.frozen?_alloc_new _ _ _ _
  rw [World.setCell_alloc_past _ _ _ _ (by omega)] at hv hB
  have HV := Lib.hid hv
  have HB := Lib.hid hB
  clear hv hB
  go_wp2
  go_ret2
  exact ⟨w1.heap.size, w3.heap.size, rfl, HV.out, HB.out⟩

set_option maxRecDepth 100000 in
set_option maxHeartbeats 1000000 in
theorem closed_any (L : Lay) (hok : L.ok) (base b b2 : Nat) (g : Int → Int) (w : World) (hv : View w base b b2 L g) :
    Calls Try.prog 42 #[.pointer (some ⟨b, 0, none⟩)] w fun e w' => e = .returned (L.img (octS L.len.toNat g)) ∧ Upd b w w' := by
  have hl := hv.lt
  have hl2 := hv.lt2 hok
  obtain ⟨cap, hsl⟩ := hv.sl
  obtain ⟨s6, h6⟩ := hv.o6
  have hf6 := hv.fz 6 (by omega)
  have hlb := L.len_bd hok
  have hcv := fun (W : World) (hW : Below w.heap.size w W) => run_convert_bytes_arg (P := Try.prog) W 70 5 Try.underlying70 Try.underlying5 b2 0 L.len.toNat cap ((List.range L.len.toNat).map fun p => g (p : Nat)) (by simp) (fun i hi => by
    rw [Nat.zero_add, hW.cell (p := ⟨b2, i, none⟩) hl2, (hv.bt i hi).1]
    simp [List.getD, hi]) 9 Try.underlying9
  have hcv1 := hcv (w.alloc (.cells #[.int .i64 0, .int .i64 0, .int .i64 0, .int .i64 0, .bool false, .int .i64 0, .string ⟨#[]⟩] 31)) ((Below.refl _ _).alloc (Nat.le_refl _) _)
  obtain ⟨v0, v1, v2, v3, v4, v5⟩ := hv.hd
  clear hcv hv
  go_enter Try.func42, Try.ntmps42
  go_wp2
  exact bodyPost_ret (v := L.img (octS L.len.toNat g)) (by simp [results, Try.results42, go_sem, Lay.img, octS]) rfl ⟨rfl, (Upd.setCell _ _ _ _).trans (Upd.of_below ((Below.refl _ _).alloc (Nat.le_refl _) _))⟩

end Go.Proofs.Ytphfbjeaklpddaa
