/-
  Layer 42, the reference's small functions: within, shaped, row, stride, rows, place.
-/
import Derived.Test.YtphfbjeaklpddaaRows
import Derived.Test.YtphfbjeaklpddaaGrow
import Derived.Test.YtphfbjeaklpddaaIl
namespace Go.Proofs.Ytphfbjeaklpddaa
open Go.RowKit

set_option maxHeartbeats 400000 in
theorem within_any (n lo hi : Int) (w : World) :
    Calls Try.prog 67 #[.int .i64 n, .int .i64 lo, .int .i64 hi] w fun e w' => e = .returned (.bool (inB n lo hi)) ∧ w = w' := by
  unfold inB
  by_cases h1 : lo ≤ n
  · go_enter Try.func67, Try.ntmps67
    go_wp2
    go_ret
    exact ⟨by simp [h1], rfl⟩
  · go_enter Try.func67, Try.ntmps67
    go_wp2
    go_ret
    exact ⟨by rw [decide_eq_false (by omega : ¬ lo ≤ n)]; rfl, rfl⟩

abbrev imgV (W H C B : Int) (pl : Bool) (P : Int) (O : ByteArray) : Value :=
  .agg #[.int .i64 W, .int .i64 H, .int .i64 C, .int .i64 B, .bool pl, .int .i64 P, .string O]

set_option maxHeartbeats 400000 in
theorem rrow_any (W H C B : Int) (pl : Bool) (P : Int) (O : ByteArray) (w : World) (h : Shp W H C B P) :
    Calls Try.prog 66 #[imgV W H C B pl P O] w fun e w' => e = .returned (.int .i64 (rowS W C B pl)) ∧ Below w.heap.size w w' := by
  obtain ⟨w1, w2, h1, h2, c1, c2, hb, hp, _⟩ := h
  obtain ⟨b1, b2⟩ : 8 ≤ B ∧ B ≤ 16 := by omega
  obtain ⟨m1, m2⟩ := mul_bd (a := W) (b := B) (A := 64) (B := 16) (by omega) w2 (by omega) b2
  obtain ⟨n1, n2⟩ := mul_bd (a := W) (b := C) (A := 64) (B := 4) (by omega) w2 (by omega) c2
  obtain ⟨k1, k2⟩ := mul_bd (a := W * C) (b := B) (A := 256) (B := 16) (by omega) n2 (by omega) b2
  clear hb hp
  cases pl
  all_goals
    go_enter Try.func66, Try.ntmps66
    go_wp2
    go_ret
    exact ⟨rfl, (Below.refl _ _).alloc (Nat.le_refl _) _⟩

set_option maxHeartbeats 400000 in
theorem rrows_any (W H C B : Int) (pl : Bool) (P : Int) (O : ByteArray) (w : World) (h : Shp W H C B P) :
    Calls Try.prog 45 #[imgV W H C B pl P O] w fun e w' => e = .returned (.int .i64 (rowsS H C pl)) ∧ Below w.heap.size w w' := by
  obtain ⟨w1, w2, h1, h2, c1, c2, hb, hp, _⟩ := h
  obtain ⟨m1, m2⟩ := mul_bd (a := H) (b := C) (A := 64) (B := 4) (by omega) h2 (by omega) c2
  clear hb hp
  cases pl
  all_goals
    go_enter Try.func45, Try.ntmps45
    go_wp2
    go_ret
    exact ⟨rfl, (Below.refl _ _).alloc (Nat.le_refl _) _⟩

set_option maxHeartbeats 400000 in
theorem rstride_any (W H C B : Int) (pl : Bool) (P : Int) (O : ByteArray) (w : World) (h : Shp W H C B P) :
    Calls Try.prog 40 #[imgV W H C B pl P O] w fun e w' => e = .returned (.int .i64 (strS W C B pl P)) ∧ Below w.heap.size w w' := by
  obtain ⟨r1, r2⟩ := rowS_bd W H C B P pl h
  obtain ⟨s1, s2, s3, s4⟩ := strS_bd W H C B P pl h
  have hp := h.p
  have p1 : 1 ≤ P := by omega
  have p2 : P ≤ 8 := by omega
  have S4 := Lib.hid s4
  have S3 := Lib.hid s3
  clear s3 s4 hp
  go_enter Try.func40, Try.ntmps40
  go_wp2_with (go_at_call 66; refine (rrow_any _ _ _ _ _ _ _ _ h).mono ?_; rintro e w1 ⟨rfl, hb⟩)
  obtain ⟨hc, hf⟩ := bcell hb
  go_loop [3] (fun n => ∃ k : Int, rowS W C B pl ≤ k ∧ k ≤ strS W C B pl P ∧ n = .int .i64 k) (fun n => (strS W C B pl P - intOf n).toNat)
  case atStart => exact ⟨_, by omega, by omega, rfl⟩
  case round =>
    obtain ⟨k, k1, k2, rfl⟩ := hrel
    by_cases hk : k % P = 0
    · have hk' : k = strS W C B pl P := S4.out k k1 k2 hk
      have HK := Lib.hid hk'
      clear hk'
      go_wp2
      go_ret
      exact ⟨by rw [HK.out]; rfl, ((Below.refl _ _).alloc (Nat.le_refl _) _).trans (hb.mono (by simp))⟩
    · have : k < strS W C B pl P := by
        by_cases e : k = strS W C B pl P
        · exact absurd (e ▸ S3.out) hk
        · omega
      go_wp2
      go_round
      case rel => exact ⟨k + 1, by omega, by omega, by go_num⟩
      case measure => simp [intOf]; omega


set_option maxHeartbeats 400000 in
theorem rplace_any (W H C B : Int) (pl : Bool) (P : Int) (O : ByteArray) (x y c : Int) (w : World) (h : Shp W H C B P) (x0 : 0 ≤ x) (xW : x < W) (y0 : 0 ≤ y) (yH : y < H) (c0 : 0 ≤ c) (cC : c < C) :
    Calls Try.prog 72 #[imgV W H C B pl P O, .int .i64 x, .int .i64 y, .int .i64 c] w fun e w' => e = .returned (.int .i64 (plcS W H C B pl P x y c)) ∧ Below w.heap.size w w' := by
  obtain ⟨r1, r2⟩ := rowS_bd W H C B P pl h
  obtain ⟨s1, s2, s3, s4⟩ := strS_bd W H C B P pl h
  have h' := h
  obtain ⟨w1, w2, h1, h2, c1, c2, hb, hp, _⟩ := h'
  have b1 : 0 ≤ B ∧ B ≤ 16 := by omega
  obtain ⟨a1, a2⟩ := mul_bd (a := c) (b := H) (A := 4) (B := 64) c0 (by omega) (by omega) h2
  obtain ⟨a3, a4⟩ := mul_bd (a := c * H + y) (b := strS W C B pl P) (A := 320) (B := 520) (by omega) (by omega) (by omega) s2
  obtain ⟨a5, a6⟩ := mul_bd (a := x) (b := B) (A := 64) (B := 16) x0 (by omega) (by omega) b1.2
  obtain ⟨a7, a8⟩ := mul_bd (a := y) (b := strS W C B pl P) (A := 64) (B := 520) y0 (by omega) (by omega) s2
  obtain ⟨a9, a10⟩ := mul_bd (a := x) (b := C) (A := 64) (B := 4) x0 (by omega) (by omega) c2
  obtain ⟨a11, a12⟩ := mul_bd (a := x * C + c) (b := B) (A := 320) (B := 16) (by omega) (by omega) (by omega) b1.2
  clear hb hp s3 s4
  cases pl
  all_goals
    go_enter Try.func72, Try.ntmps72
    go_wp2
    refine wp_region_grow (by kernel_rfl) (by kernel_rfl) ?_
    repeat (go_big_quiet_step ((go_at_call 40; exact calls_grow (rstride_any _ _ _ _ _ _ _ _ h))))
    refine wpQuiet_nil ?_
    intro _ hw'
    obtain ⟨nq, hw''⟩ := hw'
    subst hw''
    go_wp2
    go_ret
    exact ⟨rfl, ((Below.refl _ _).alloc (Nat.le_refl _) _).trans ((grow_below _ _).mono (by simp))⟩

end Go.Proofs.Ytphfbjeaklpddaa
