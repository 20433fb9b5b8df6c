/-
  Layer 42: the program's shaped.
-/
import Derived.Test.YtphfbjeaklpddaaIs
namespace Go.Proofs.Ytphfbjeaklpddaa
open Go.RowKit

set_option maxHeartbeats 4000000 in
theorem shaped_any (W H C B : Int) (pl : Bool) (P : Int) (O : ByteArray) (w : World) :
    Calls Try.prog 63 #[imgV W H C B pl P O] w fun e w' => e = .returned (.bool (shpB W H C B P)) ∧ Below w.heap.size w w' := by
  cases hW : inB W 1 64
  · go_enter Try.func63, Try.ntmps63
    go_wp2_with (first | (go_at_call 78; refine (contains4 1 2 4 8 P _ _ _ ?_ ?_ ?_ ?_).mono ?_; go_simp; go_simp; go_simp; go_simp; rintro e w3 ⟨rfl, rfl⟩) | (go_at_call 50; (with_reducible refine (between2 1 64 W H _ _ _ ?_ ?_).mono ?_); go_simp; go_simp; rintro e w1 ⟨rfl, hb1⟩; obtain ⟨hc1, hf1, hz1⟩ := after hb1; simp only [World.size_alloc] at hz1; have hy1 : w.heap.size ≤ w1.heap.size := (by omega); have hx1 : w.heap.size < w1.heap.size := (by omega)) | (go_at_call 50; (with_reducible refine (between1 1 4 C _ _ _ ?_).mono ?_); go_simp; rintro e w2 ⟨rfl, hb2⟩; obtain ⟨hc2, hf2, hz2⟩ := after hb2; simp only [World.size_alloc] at hz2; have hy2 : w.heap.size ≤ w2.heap.size := (by omega); have hx2 : w.heap.size < w2.heap.size := (by omega)))
    all_goals
      go_ret
      refine ⟨by simp [shpB, hW], ?_⟩
      repeat (first | exact Below.refl _ _ | (refine Below.alloc ?_ ?_ _) | (refine Below.trans ?_ (Below.mono (by assumption) ?_)))
      all_goals ((try simp only [World.size_alloc]); omega)

  cases hH : inB H 1 64
  · go_enter Try.func63, Try.ntmps63
    go_wp2_with (first | (go_at_call 78; refine (contains4 1 2 4 8 P _ _ _ ?_ ?_ ?_ ?_).mono ?_; go_simp; go_simp; go_simp; go_simp; rintro e w3 ⟨rfl, rfl⟩) | (go_at_call 50; (with_reducible refine (between2 1 64 W H _ _ _ ?_ ?_).mono ?_); go_simp; go_simp; rintro e w1 ⟨rfl, hb1⟩; obtain ⟨hc1, hf1, hz1⟩ := after hb1; simp only [World.size_alloc] at hz1; have hy1 : w.heap.size ≤ w1.heap.size := (by omega); have hx1 : w.heap.size < w1.heap.size := (by omega)) | (go_at_call 50; (with_reducible refine (between1 1 4 C _ _ _ ?_).mono ?_); go_simp; rintro e w2 ⟨rfl, hb2⟩; obtain ⟨hc2, hf2, hz2⟩ := after hb2; simp only [World.size_alloc] at hz2; have hy2 : w.heap.size ≤ w2.heap.size := (by omega); have hx2 : w.heap.size < w2.heap.size := (by omega)))
    all_goals
      go_ret
      refine ⟨by simp [shpB, hW, hH], ?_⟩
      repeat (first | exact Below.refl _ _ | (refine Below.alloc ?_ ?_ _) | (refine Below.trans ?_ (Below.mono (by assumption) ?_)))
      all_goals ((try simp only [World.size_alloc]); omega)

  cases hC : inB C 1 4
  · go_enter Try.func63, Try.ntmps63
    go_wp2_with (first | (go_at_call 78; refine (contains4 1 2 4 8 P _ _ _ ?_ ?_ ?_ ?_).mono ?_; go_simp; go_simp; go_simp; go_simp; rintro e w3 ⟨rfl, rfl⟩) | (go_at_call 50; (with_reducible refine (between2 1 64 W H _ _ _ ?_ ?_).mono ?_); go_simp; go_simp; rintro e w1 ⟨rfl, hb1⟩; obtain ⟨hc1, hf1, hz1⟩ := after hb1; simp only [World.size_alloc] at hz1; have hy1 : w.heap.size ≤ w1.heap.size := (by omega); have hx1 : w.heap.size < w1.heap.size := (by omega)) | (go_at_call 50; (with_reducible refine (between1 1 4 C _ _ _ ?_).mono ?_); go_simp; rintro e w2 ⟨rfl, hb2⟩; obtain ⟨hc2, hf2, hz2⟩ := after hb2; simp only [World.size_alloc] at hz2; have hy2 : w.heap.size ≤ w2.heap.size := (by omega); have hx2 : w.heap.size < w2.heap.size := (by omega)))
    all_goals
      go_ret
      refine ⟨by simp [shpB, hW, hH, hC], ?_⟩
      repeat (first | exact Below.refl _ _ | (refine Below.alloc ?_ ?_ _) | (refine Below.trans ?_ (Below.mono (by assumption) ?_)))
      all_goals ((try simp only [World.size_alloc]); omega)

  obtain ⟨w1, w2⟩ := (inB_iff _ _ _).1 hW
  obtain ⟨h1, h2⟩ := (inB_iff _ _ _).1 hH
  obtain ⟨c1, c2⟩ := (inB_iff _ _ _).1 hC
  obtain ⟨m1, m2⟩ := mul_bd (a := W) (b := H) (A := 64) (B := 64) (by omega) w2 (by omega) h2
  obtain ⟨k1, k2⟩ := mul_bd (a := W * H) (b := C) (A := 4096) (B := 4) (by omega) m2 (by omega) c2
  cases hs : decide (W * H * C ≤ 4096)
  · have hs' : 4096 < W * H * C := by simpa using hs
    have HS := Lib.hid hs
    clear hs
    go_enter Try.func63, Try.ntmps63
    go_wp2_with (first | (go_at_call 78; refine (contains4 1 2 4 8 P _ _ _ ?_ ?_ ?_ ?_).mono ?_; go_simp; go_simp; go_simp; go_simp; rintro e w3 ⟨rfl, rfl⟩) | (go_at_call 50; (with_reducible refine (between2 1 64 W H _ _ _ ?_ ?_).mono ?_); go_simp; go_simp; rintro e w1 ⟨rfl, hb1⟩; obtain ⟨hc1, hf1, hz1⟩ := after hb1; simp only [World.size_alloc] at hz1; have hy1 : w.heap.size ≤ w1.heap.size := (by omega); have hx1 : w.heap.size < w1.heap.size := (by omega)) | (go_at_call 50; (with_reducible refine (between1 1 4 C _ _ _ ?_).mono ?_); go_simp; rintro e w2 ⟨rfl, hb2⟩; obtain ⟨hc2, hf2, hz2⟩ := after hb2; simp only [World.size_alloc] at hz2; have hy2 : w.heap.size ≤ w2.heap.size := (by omega); have hx2 : w.heap.size < w2.heap.size := (by omega)))
    all_goals
      go_ret
      refine ⟨by simp [shpB, hW, hH, hC, HS.out], ?_⟩
      repeat (first | exact Below.refl _ _ | (refine Below.alloc ?_ ?_ _) | (refine Below.trans ?_ (Below.mono (by assumption) ?_)))
      all_goals ((try simp only [World.size_alloc]); omega)

  · have hs' : W * H * C ≤ 4096 := by simpa using hs
    have HS := Lib.hid hs
    clear hs
    go_enter Try.func63, Try.ntmps63
    go_wp2_with (first | (go_at_call 78; refine (contains4 1 2 4 8 P _ _ _ ?_ ?_ ?_ ?_).mono ?_; go_simp; go_simp; go_simp; go_simp; rintro e w3 ⟨rfl, rfl⟩) | (go_at_call 50; (with_reducible refine (between2 1 64 W H _ _ _ ?_ ?_).mono ?_); go_simp; go_simp; rintro e w1 ⟨rfl, hb1⟩; obtain ⟨hc1, hf1, hz1⟩ := after hb1; simp only [World.size_alloc] at hz1; have hy1 : w.heap.size ≤ w1.heap.size := (by omega); have hx1 : w.heap.size < w1.heap.size := (by omega)) | (go_at_call 50; (with_reducible refine (between1 1 4 C _ _ _ ?_).mono ?_); go_simp; rintro e w2 ⟨rfl, hb2⟩; obtain ⟨hc2, hf2, hz2⟩ := after hb2; simp only [World.size_alloc] at hz2; have hy2 : w.heap.size ≤ w2.heap.size := (by omega); have hx2 : w.heap.size < w2.heap.size := (by omega)))
    all_goals
      go_ret
      refine ⟨by simp [shpB, hW, hH, hC, HS.out, *], ?_⟩
      repeat (first | exact Below.refl _ _ | (refine Below.alloc ?_ ?_ _) | (refine Below.trans ?_ (Below.mono (by assumption) ?_)))
      all_goals ((try simp only [World.size_alloc]); omega)


end Go.Proofs.Ytphfbjeaklpddaa
