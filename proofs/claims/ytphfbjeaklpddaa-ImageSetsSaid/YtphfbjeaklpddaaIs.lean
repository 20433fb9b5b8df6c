/-
  Layer 42: shaped, the reference's and the program's.
-/
import Derived.Test.YtphfbjeaklpddaaIc
namespace Go.Proofs.Ytphfbjeaklpddaa
open Go.RowKit

set_option maxHeartbeats 2000000 in
theorem rshaped_any (W H C B : Int) (pl : Bool) (P : Int) (O : ByteArray) (w : World) :
    Calls Try.prog 43 #[imgV W H C B pl P O] w fun e w' => e = .returned (.bool (shpB W H C B P)) ∧ Below w.heap.size w w' := by
  have hb0 : ∀ o, Below w.heap.size w (w.alloc o) := fun o => (Below.refl _ _).alloc (Nat.le_refl _) _
  cases hW : inB W 1 64
  · go_enter Try.func43, Try.ntmps43
    go_wp2_with (go_at_call 67; refine (within_any _ _ _ _).mono ?_; rintro e w1 ⟨rfl, rfl⟩)
    go_ret
    exact ⟨by simp [shpB, hW], hb0 _⟩
  cases hH : inB H 1 64
  · go_enter Try.func43, Try.ntmps43
    go_wp2_with (go_at_call 67; refine (within_any _ _ _ _).mono ?_; rintro e w1 ⟨rfl, rfl⟩)
    go_ret
    exact ⟨by simp [shpB, hW, hH], hb0 _⟩
  cases hC : inB C 1 4
  · go_enter Try.func43, Try.ntmps43
    go_wp2_with (go_at_call 67; refine (within_any _ _ _ _).mono ?_; rintro e w1 ⟨rfl, rfl⟩)
    go_ret
    exact ⟨by simp [shpB, hW, hH, hC], hb0 _⟩
  obtain ⟨w1, w2⟩ := (inB_iff _ _ _).1 hW
  obtain ⟨h1, h2⟩ := (inB_iff _ _ _).1 hH
  obtain ⟨c1, c2⟩ := (inB_iff _ _ _).1 hC
  obtain ⟨m1, m2⟩ := mul_bd (a := W) (b := H) (A := 64) (B := 64) (by omega) w2 (by omega) h2
  obtain ⟨k1, k2⟩ := mul_bd (a := W * H) (b := C) (A := 4096) (B := 4) (by omega) m2 (by omega) c2
  cases hs : decide (W * H * C ≤ 4096)
  · have hs' : 4096 < W * H * C := by simpa using hs
    have HS := Lib.hid hs
    clear hs
    go_enter Try.func43, Try.ntmps43
    go_wp2_with (go_at_call 67; refine (within_any _ _ _ _).mono ?_; rintro e w1 ⟨rfl, rfl⟩)
    go_ret
    exact ⟨by simp [shpB, hW, hH, hC, HS.out], hb0 _⟩
  · have hs' : W * H * C ≤ 4096 := by simpa using hs
    have HS := Lib.hid hs
    clear hs
    go_enter Try.func43, Try.ntmps43
    go_wp2_with (go_at_call 67; refine (within_any _ _ _ _).mono ?_; rintro e w1 ⟨rfl, rfl⟩)
    all_goals
      go_ret
      exact ⟨by simp [shpB, hW, hH, hC, HS.out, *], hb0 _⟩

theorem ints_mk {w : World} {b off : Nat} {xs : List Int} (h : ∀ i, i < xs.length → w.cell? ⟨b, off + i, none⟩ = some (.int .i64 (xs[i]?.getD 0))) : Ints w (some ⟨b, off, none⟩) xs :=
  fun _ => ⟨b, off, rfl, h⟩

theorem between1 (lo hi x : Int) (b cap : Nat) (w : World) (h0 : w.cell? ⟨b, 0, none⟩ = some (.int .i64 x)) :
    Calls Try.prog 50 #[.int .i64 lo, .int .i64 hi, .slice (some ⟨b, 0, none⟩) 1 cap] w fun e w' => e = .returned (.bool (inB x lo hi)) ∧ Below w.heap.size w w' := by
  have := between_any lo hi [x] (some ⟨b, 0, none⟩) cap w (ints_mk (fun i hi => by
    have : i = 0 := by simpa using hi
    subst this; simpa using h0)) (by unfold maxLen; simp)
  simpa using this

theorem between2 (lo hi x y : Int) (b cap : Nat) (w : World) (h0 : w.cell? ⟨b, 0, none⟩ = some (.int .i64 x)) (h1 : w.cell? ⟨b, 1, none⟩ = some (.int .i64 y)) :
    Calls Try.prog 50 #[.int .i64 lo, .int .i64 hi, .slice (some ⟨b, 0, none⟩) 2 cap] w fun e w' => e = .returned (.bool (inB x lo hi && inB y lo hi)) ∧ Below w.heap.size w w' := by
  have := between_any lo hi [x, y] (some ⟨b, 0, none⟩) cap w (ints_mk (fun i hi => by
    have : i = 0 ∨ i = 1 := by simp at hi; omega
    rcases this with rfl | rfl
    · simpa using h0
    · simpa using h1)) (by unfold maxLen; simp)
  simpa using this

theorem contains4 (x y z t v : Int) (b cap : Nat) (w : World) (h0 : w.cell? ⟨b, 0, none⟩ = some (.int .i64 x)) (h1 : w.cell? ⟨b, 1, none⟩ = some (.int .i64 y)) (h2 : w.cell? ⟨b, 2, none⟩ = some (.int .i64 z)) (h3 : w.cell? ⟨b, 3, none⟩ = some (.int .i64 t)) :
    Calls Try.prog 78 #[.slice (some ⟨b, 0, none⟩) 4 cap, .int .i64 v] w fun e w' => e = .returned (.bool (v == x || v == y || v == z || v == t)) ∧ w = w' := by
  have := contains_any [x, y, z, t] (some ⟨b, 0, none⟩) cap v w (ints_mk (fun i hi => by
    have : i = 0 ∨ i = 1 ∨ i = 2 ∨ i = 3 := by simp at hi; omega
    rcases this with rfl | rfl | rfl | rfl
    · simpa using h0
    · simpa using h1
    · simpa using h2
    · simpa using h3)) (by unfold maxLen; simp)
  simpa [Bool.or_assoc] using this

end Go.Proofs.Ytphfbjeaklpddaa
