/-
  Layer 42: the view's methods row, stride, rows, place.
-/
import Derived.Test.YtphfbjeaklpddaaIp
namespace Go.Proofs.Ytphfbjeaklpddaa
open Go.RowKit

/-- the view in block b has these numbers -/
structure Vw (w : World) (b : Nat) (W H C B : Int) (pl : Bool) (P : Int) : Prop where
  c0 : w.cell? ⟨b, 0, none⟩ = some (.int .i64 W)
  c1 : w.cell? ⟨b, 1, none⟩ = some (.int .i64 H)
  c2 : w.cell? ⟨b, 2, none⟩ = some (.int .i64 C)
  c3 : w.cell? ⟨b, 3, none⟩ = some (.int .i64 B)
  c4 : w.cell? ⟨b, 4, none⟩ = some (.bool pl)
  c5 : w.cell? ⟨b, 5, none⟩ = some (.int .i64 P)

theorem Vw.lt {w : World} {b : Nat} {W H C B : Int} {pl : Bool} {P : Int} (h : Vw w b W H C B pl P) : b < w.heap.size := World.block_lt_of_cell? _ _ h.c0

theorem Vw.of_cells {w w' : World} {b : Nat} {W H C B : Int} {pl : Bool} {P : Int} (h : Vw w b W H C B pl P) (hc : ∀ o, w'.cell? ⟨b, o, none⟩ = w.cell? ⟨b, o, none⟩) : Vw w' b W H C B pl P :=
  ⟨(hc _).trans h.c0, (hc _).trans h.c1, (hc _).trans h.c2, (hc _).trans h.c3, (hc _).trans h.c4, (hc _).trans h.c5⟩

theorem Vw.below {w w' : World} {b : Nat} {W H C B : Int} {pl : Bool} {P : Int} (h : Vw w b W H C B pl P) (hb : Below w.heap.size w w') : Vw w' b W H C B pl P :=
  h.of_cells fun o => hb.cell (p := ⟨b, o, none⟩) h.lt

set_option maxHeartbeats 1000000 in
theorem vrow_any (b : Nat) (W H C B : Int) (pl : Bool) (P : Int) (w : World) (hv : Vw w b W H C B pl P) (h : Shp W H C B P) :
    Calls Try.prog 65 #[.pointer (some ⟨b, 0, none⟩)] w fun e w' => e = .returned (.int .i64 (rowS W C B pl)) ∧ Below w.heap.size w w' := by
  have hr := rowS_alt W H C B P pl h
  have hl := hv.lt
  obtain ⟨v0, v1, v2, v3, v4, v5⟩ := hv
  obtain ⟨w1, w2, h1, h2, c1, c2, hb, hp, _⟩ := h
  obtain ⟨b1, b2⟩ : 8 ≤ B ∧ B ≤ 16 := by omega
  obtain ⟨m1, m2⟩ := mul_bd (a := W) (b := B) (A := 64) (B := 16) (by omega) w2 (by omega) b2
  obtain ⟨n1, n2⟩ := mul_bd (a := W * B / 8) (b := C) (A := 128) (B := 4) (by omega) (by omega) (by omega) c2
  have HR := Lib.hid hr
  clear hb hp hr
  cases pl
  all_goals
    go_enter Try.func65, Try.ntmps65
    go_wp2
    refine wp_region_grow (by kernel_rfl) (by kernel_rfl) ?_
    repeat (go_big_quiet_step (fail))
    refine wpQuiet_nil ?_
    intro _ hw'
    obtain ⟨nq, hw''⟩ := hw'
    subst hw''
    go_wp2
    go_ret
    exact ⟨by rw [HR.out]; rfl, grow_below _ _⟩

set_option maxHeartbeats 1000000 in
theorem vrows_any (b : Nat) (W H C B : Int) (pl : Bool) (P : Int) (w : World) (hv : Vw w b W H C B pl P) (h : Shp W H C B P) :
    Calls Try.prog 64 #[.pointer (some ⟨b, 0, none⟩)] w fun e w' => e = .returned (.int .i64 (rowsS H C pl)) ∧ Below w.heap.size w w' := by
  have hl := hv.lt
  obtain ⟨v0, v1, v2, v3, v4, v5⟩ := hv
  obtain ⟨w1, w2, h1, h2, c1, c2, hb, hp, _⟩ := h
  obtain ⟨m1, m2⟩ := mul_bd (a := H) (b := C) (A := 64) (B := 4) (by omega) h2 (by omega) c2
  clear hb hp
  cases pl
  · go_enter Try.func64, Try.ntmps64
    go_wp2
    go_ret
    exact ⟨rfl, Below.refl _ _⟩
  · go_enter Try.func64, Try.ntmps64
    go_wp2
    refine wp_region_grow (by kernel_rfl) (by kernel_rfl) ?_
    repeat (go_big_quiet_step (fail))
    refine wpQuiet_nil ?_
    intro _ hw'
    obtain ⟨nq, hw''⟩ := hw'
    subst hw''
    go_wp2
    go_ret
    exact ⟨rfl, grow_below _ _⟩

set_option maxHeartbeats 1000000 in
theorem vstride_any (b : Nat) (W H C B : Int) (pl : Bool) (P : Int) (w : World) (hv : Vw w b W H C B pl P) (h : Shp W H C B P) :
    Calls Try.prog 38 #[.pointer (some ⟨b, 0, none⟩)] w fun e w' => e = .returned (.int .i64 (strS W C B pl P)) ∧ Below w.heap.size w w' := by
  have hl := hv.lt
  have hv' := hv
  obtain ⟨r1, r2⟩ := rowS_bd W H C B P pl h
  obtain ⟨s1, s2, s3, s4⟩ := strS_bd W H C B P pl h
  obtain ⟨v0, v1, v2, v3, v4, v5⟩ := hv'
  have hp := h.p
  have p1 : 1 ≤ P := by omega
  have p2 : P ≤ 8 := by omega
  have hd : 0 ≤ (rowS W C B pl + P - 1) / P ∧ (rowS W C B pl + P - 1) / P ≤ 520 := by
    generalize rowS W C B pl = r at *
    rcases hp with rfl | rfl | rfl | rfl <;> omega
  obtain ⟨d1, d2⟩ := hd
  unfold strS at *
  clear hp s3 s4
  go_enter Try.func38, Try.ntmps38
  go_wp2
  refine wp_region_grow (by kernel_rfl) (by kernel_rfl) ?_
  repeat (go_big_quiet_step ((go_at_call 65; exact calls_grow (vrow_any b W H C B pl P _ (hv.below (grow_below _ _)) h))))
  refine wpQuiet_nil ?_
  intro _ hw'
  obtain ⟨nq, hw''⟩ := hw'
  subst hw''
  go_wp2
  go_ret
  exact ⟨rfl, grow_below _ _⟩

set_option maxHeartbeats 1000000 in
theorem vplace_any (b : Nat) (W H C B : Int) (pl : Bool) (P : Int) (x y c : Int) (w : World) (hv : Vw w b W H C B pl P) (h : Shp W H C B P) (x0 : 0 ≤ x) (xW : x < W) (y0 : 0 ≤ y) (yH : y < H) (c0 : 0 ≤ c) (cC : c < C) :
    Calls Try.prog 71 #[.pointer (some ⟨b, 0, none⟩), .int .i64 x, .int .i64 y, .int .i64 c] w fun e w' => e = .returned (.int .i64 (plcS W H C B pl P x y c)) ∧ Below w.heap.size w w' := by
  have hl := hv.lt
  have hv' := hv
  obtain ⟨r1, r2⟩ := rowS_bd W H C B P pl h
  obtain ⟨s1, s2, s3, s4⟩ := strS_bd W H C B P pl h
  obtain ⟨v0, v1, v2, v3, v4, v5⟩ := hv'
  have h' := h
  obtain ⟨w1, w2, h1, h2, c1, c2, hb, hp, _⟩ := h'
  have b1 : 0 ≤ B ∧ B ≤ 16 := by omega
  obtain ⟨a1, a2⟩ := mul_bd (a := c) (b := H) (A := 4) (B := 64) c0 (by omega) (by omega) h2
  obtain ⟨a3, a4⟩ := mul_bd (a := c * H + y) (b := strS W C B pl P) (A := 320) (B := 520) (by omega) (by omega) (by omega) s2
  obtain ⟨a5, a6⟩ := mul_bd (a := x) (b := B) (A := 64) (B := 16) x0 (by omega) (by omega) b1.2
  obtain ⟨a7, a8⟩ := mul_bd (a := y) (b := strS W C B pl P) (A := 64) (B := 520) y0 (by omega) (by omega) s2
  obtain ⟨a9, a10⟩ := mul_bd (a := x) (b := C) (A := 64) (B := 4) x0 (by omega) (by omega) c2
  obtain ⟨a11, a12⟩ := mul_bd (a := x * C + c) (b := B) (A := 320) (B := 16) (by omega) (by omega) (by omega) b1.2
  clear hb hp s3 s4
  cases pl
  all_goals
    go_enter Try.func71, Try.ntmps71
    go_wp2
    refine wp_region_grow (by kernel_rfl) (by kernel_rfl) ?_
    repeat (go_big_quiet_step ((go_at_call 38; exact calls_grow (vstride_any b W H C B _ P _ (hv.below (grow_below _ _)) h))))
    refine wpQuiet_nil ?_
    intro _ hw'
    obtain ⟨nq, hw''⟩ := hw'
    subst hw''
    go_wp2
    go_ret
    exact ⟨rfl, grow_below _ _⟩

end Go.Proofs.Ytphfbjeaklpddaa
