/-
  Joined texts: Layer 42: the program's shaped. · Layer 42: the view's methods row, stride, rows, place. · Layer 42: open. · Layer 42: open, its loop over the octets. ·  · Layer 42: put. · Layer 42: put as one; pixel's closures. · Layer 42: made at its two closures; pixel. · Layer 42: pixel. · Layer 42: blank, closed. · Layer 42: Check, Stride, Make, at, Get. · Layer 42: Make, at, Get, inside. · Layer 42: at, Get, inside. · Layer 42: Get, inside.
-/
import Derived.Test.YtphfbjeaklpddaaOL3
import Derived.Laws.IdiomStrings
import Derived.Laws.BytesArg
import Derived.BigRegion
import Derived.RegionTactic
import Derived.StillTailTactics
import Derived.Deep.OwnRows
import Derived.Deep.LoopGhost
import Derived.Laws.EntriesVeiled
set_option linter.unusedSimpArgs false
set_option linter.unusedVariables false

/- Layer 42: the program's shaped. -/
namespace Go.Proofs.Ytphfbjeaklpddaa
open Go.RowKit

set_option maxHeartbeats 4000000 in
theorem shaped_any (W H C B : Int) (pl : Bool) (P : Int) (O : ByteArray) (w : World) :
    Calls Try.prog 63 #[imgV W H C B pl P O] w fun e w' => e = .returned (.bool (shpB W H C B P)) ∧ Below w.heap.size w w' := by
  cases hW : inB W 1 64
  · go_enter Try.func63, Try.ntmps63
    go_wp2_with (first | (go_at_call 78; refine (contains4 1 2 4 8 P _ _ _ ?_ ?_ ?_ ?_).mono ?_; go_simp; go_simp; go_simp; go_simp; rintro e w3 ⟨rfl, rfl⟩) | (go_at_call 50; (with_reducible refine (between2 1 64 W H _ _ _ ?_ ?_).mono ?_); go_simp; go_simp; rintro e w1 ⟨rfl, hb1⟩; obtain ⟨hc1, hf1, hz1⟩ := after hb1; simp only [World.size_alloc] at hz1; have hy1 : w.heap.size ≤ w1.heap.size := (by omega); have hx1 : w.heap.size < w1.heap.size := (by omega)) | (go_at_call 50; (with_reducible refine (between1 1 4 C _ _ _ ?_).mono ?_); go_simp; rintro e w2 ⟨rfl, hb2⟩; obtain ⟨hc2, hf2, hz2⟩ := after hb2; simp only [World.size_alloc] at hz2; have hy2 : w.heap.size ≤ w2.heap.size := (by omega); have hx2 : w.heap.size < w2.heap.size := (by omega)))
    all_goals
      go_ret
      refine ⟨by simp [shpB, hW], ?_⟩
      repeat (first | exact Below.refl _ _ | (refine Below.alloc ?_ ?_ _) | (refine Below.trans ?_ (Below.mono (by assumption) ?_)))
      all_goals ((try simp only [World.size_alloc]); omega)

  cases hH : inB H 1 64
  · go_enter Try.func63, Try.ntmps63
    go_wp2_with (first | (go_at_call 78; refine (contains4 1 2 4 8 P _ _ _ ?_ ?_ ?_ ?_).mono ?_; go_simp; go_simp; go_simp; go_simp; rintro e w3 ⟨rfl, rfl⟩) | (go_at_call 50; (with_reducible refine (between2 1 64 W H _ _ _ ?_ ?_).mono ?_); go_simp; go_simp; rintro e w1 ⟨rfl, hb1⟩; obtain ⟨hc1, hf1, hz1⟩ := after hb1; simp only [World.size_alloc] at hz1; have hy1 : w.heap.size ≤ w1.heap.size := (by omega); have hx1 : w.heap.size < w1.heap.size := (by omega)) | (go_at_call 50; (with_reducible refine (between1 1 4 C _ _ _ ?_).mono ?_); go_simp; rintro e w2 ⟨rfl, hb2⟩; obtain ⟨hc2, hf2, hz2⟩ := after hb2; simp only [World.size_alloc] at hz2; have hy2 : w.heap.size ≤ w2.heap.size := (by omega); have hx2 : w.heap.size < w2.heap.size := (by omega)))
    all_goals
      go_ret
      refine ⟨by simp [shpB, hW, hH], ?_⟩
      repeat (first | exact Below.refl _ _ | (refine Below.alloc ?_ ?_ _) | (refine Below.trans ?_ (Below.mono (by assumption) ?_)))
      all_goals ((try simp only [World.size_alloc]); omega)

  cases hC : inB C 1 4
  · go_enter Try.func63, Try.ntmps63
    go_wp2_with (first | (go_at_call 78; refine (contains4 1 2 4 8 P _ _ _ ?_ ?_ ?_ ?_).mono ?_; go_simp; go_simp; go_simp; go_simp; rintro e w3 ⟨rfl, rfl⟩) | (go_at_call 50; (with_reducible refine (between2 1 64 W H _ _ _ ?_ ?_).mono ?_); go_simp; go_simp; rintro e w1 ⟨rfl, hb1⟩; obtain ⟨hc1, hf1, hz1⟩ := after hb1; simp only [World.size_alloc] at hz1; have hy1 : w.heap.size ≤ w1.heap.size := (by omega); have hx1 : w.heap.size < w1.heap.size := (by omega)) | (go_at_call 50; (with_reducible refine (between1 1 4 C _ _ _ ?_).mono ?_); go_simp; rintro e w2 ⟨rfl, hb2⟩; obtain ⟨hc2, hf2, hz2⟩ := after hb2; simp only [World.size_alloc] at hz2; have hy2 : w.heap.size ≤ w2.heap.size := (by omega); have hx2 : w.heap.size < w2.heap.size := (by omega)))
    all_goals
      go_ret
      refine ⟨by simp [shpB, hW, hH, hC], ?_⟩
      repeat (first | exact Below.refl _ _ | (refine Below.alloc ?_ ?_ _) | (refine Below.trans ?_ (Below.mono (by assumption) ?_)))
      all_goals ((try simp only [World.size_alloc]); omega)

  obtain ⟨w1, w2⟩ := (inB_iff _ _ _).1 hW
  obtain ⟨h1, h2⟩ := (inB_iff _ _ _).1 hH
  obtain ⟨c1, c2⟩ := (inB_iff _ _ _).1 hC
  obtain ⟨m1, m2⟩ := mul_bd (a := W) (b := H) (A := 64) (B := 64) (by omega) w2 (by omega) h2
  obtain ⟨k1, k2⟩ := mul_bd (a := W * H) (b := C) (A := 4096) (B := 4) (by omega) m2 (by omega) c2
  cases hs : decide (W * H * C ≤ 4096)
  · have hs' : 4096 < W * H * C := by simpa using hs
    have HS := Lib.hid hs
    clear hs
    go_enter Try.func63, Try.ntmps63
    go_wp2_with (first | (go_at_call 78; refine (contains4 1 2 4 8 P _ _ _ ?_ ?_ ?_ ?_).mono ?_; go_simp; go_simp; go_simp; go_simp; rintro e w3 ⟨rfl, rfl⟩) | (go_at_call 50; (with_reducible refine (between2 1 64 W H _ _ _ ?_ ?_).mono ?_); go_simp; go_simp; rintro e w1 ⟨rfl, hb1⟩; obtain ⟨hc1, hf1, hz1⟩ := after hb1; simp only [World.size_alloc] at hz1; have hy1 : w.heap.size ≤ w1.heap.size := (by omega); have hx1 : w.heap.size < w1.heap.size := (by omega)) | (go_at_call 50; (with_reducible refine (between1 1 4 C _ _ _ ?_).mono ?_); go_simp; rintro e w2 ⟨rfl, hb2⟩; obtain ⟨hc2, hf2, hz2⟩ := after hb2; simp only [World.size_alloc] at hz2; have hy2 : w.heap.size ≤ w2.heap.size := (by omega); have hx2 : w.heap.size < w2.heap.size := (by omega)))
    all_goals
      go_ret
      refine ⟨by simp [shpB, hW, hH, hC, HS.out], ?_⟩
      repeat (first | exact Below.refl _ _ | (refine Below.alloc ?_ ?_ _) | (refine Below.trans ?_ (Below.mono (by assumption) ?_)))
      all_goals ((try simp only [World.size_alloc]); omega)

  · have hs' : W * H * C ≤ 4096 := by simpa using hs
    have HS := Lib.hid hs
    clear hs
    go_enter Try.func63, Try.ntmps63
    go_wp2_with (first | (go_at_call 78; refine (contains4 1 2 4 8 P _ _ _ ?_ ?_ ?_ ?_).mono ?_; go_simp; go_simp; go_simp; go_simp; rintro e w3 ⟨rfl, rfl⟩) | (go_at_call 50; (with_reducible refine (between2 1 64 W H _ _ _ ?_ ?_).mono ?_); go_simp; go_simp; rintro e w1 ⟨rfl, hb1⟩; obtain ⟨hc1, hf1, hz1⟩ := after hb1; simp only [World.size_alloc] at hz1; have hy1 : w.heap.size ≤ w1.heap.size := (by omega); have hx1 : w.heap.size < w1.heap.size := (by omega)) | (go_at_call 50; (with_reducible refine (between1 1 4 C _ _ _ ?_).mono ?_); go_simp; rintro e w2 ⟨rfl, hb2⟩; obtain ⟨hc2, hf2, hz2⟩ := after hb2; simp only [World.size_alloc] at hz2; have hy2 : w.heap.size ≤ w2.heap.size := (by omega); have hx2 : w.heap.size < w2.heap.size := (by omega)))
    all_goals
      go_ret
      refine ⟨by simp [shpB, hW, hH, hC, HS.out, *], ?_⟩
      repeat (first | exact Below.refl _ _ | (refine Below.alloc ?_ ?_ _) | (refine Below.trans ?_ (Below.mono (by assumption) ?_)))
      all_goals ((try simp only [World.size_alloc]); omega)


end Go.Proofs.Ytphfbjeaklpddaa

/- Layer 42: the view's methods row, stride, rows, place. -/
namespace Go.Proofs.Ytphfbjeaklpddaa
open Go.RowKit

/-- the view in block b has these numbers -/
structure Vw (w : World) (b : Nat) (W H C B : Int) (pl : Bool) (P : Int) : Prop where
  c0 : w.cell? ⟨b, 0, none⟩ = some (.int .i64 W)
  c1 : w.cell? ⟨b, 1, none⟩ = some (.int .i64 H)
  c2 : w.cell? ⟨b, 2, none⟩ = some (.int .i64 C)
  c3 : w.cell? ⟨b, 3, none⟩ = some (.int .i64 B)
  c4 : w.cell? ⟨b, 4, none⟩ = some (.bool pl)
  c5 : w.cell? ⟨b, 5, none⟩ = some (.int .i64 P)

theorem Vw.lt {w : World} {b : Nat} {W H C B : Int} {pl : Bool} {P : Int} (h : Vw w b W H C B pl P) : b < w.heap.size := World.block_lt_of_cell? _ _ h.c0

theorem Vw.of_cells {w w' : World} {b : Nat} {W H C B : Int} {pl : Bool} {P : Int} (h : Vw w b W H C B pl P) (hc : ∀ o, w'.cell? ⟨b, o, none⟩ = w.cell? ⟨b, o, none⟩) : Vw w' b W H C B pl P :=
  ⟨(hc _).trans h.c0, (hc _).trans h.c1, (hc _).trans h.c2, (hc _).trans h.c3, (hc _).trans h.c4, (hc _).trans h.c5⟩

theorem Vw.below {w w' : World} {b : Nat} {W H C B : Int} {pl : Bool} {P : Int} (h : Vw w b W H C B pl P) (hb : Below w.heap.size w w') : Vw w' b W H C B pl P :=
  h.of_cells fun o => hb.cell (p := ⟨b, o, none⟩) h.lt

set_option maxHeartbeats 1000000 in
theorem vrow_any (b : Nat) (W H C B : Int) (pl : Bool) (P : Int) (w : World) (hv : Vw w b W H C B pl P) (h : Shp W H C B P) :
    Calls Try.prog 65 #[.pointer (some ⟨b, 0, none⟩)] w fun e w' => e = .returned (.int .i64 (rowS W C B pl)) ∧ Below w.heap.size w w' := by
  have hr := rowS_alt W H C B P pl h
  have hl := hv.lt
  obtain ⟨v0, v1, v2, v3, v4, v5⟩ := hv
  obtain ⟨w1, w2, h1, h2, c1, c2, hb, hp, _⟩ := h
  obtain ⟨b1, b2⟩ : 8 ≤ B ∧ B ≤ 16 := by omega
  obtain ⟨m1, m2⟩ := mul_bd (a := W) (b := B) (A := 64) (B := 16) (by omega) w2 (by omega) b2
  obtain ⟨n1, n2⟩ := mul_bd (a := W * B / 8) (b := C) (A := 128) (B := 4) (by omega) (by omega) (by omega) c2
  have HR := Lib.hid hr
  clear hb hp hr
  cases pl
  all_goals
    go_enter Try.func65, Try.ntmps65
    go_wp2
    refine wp_region_grow (by kernel_rfl) (by kernel_rfl) ?_
    repeat (go_big_quiet_step (fail))
    refine wpQuiet_nil ?_
    intro _ hw'
    obtain ⟨nq, hw''⟩ := hw'
    subst hw''
    go_wp2
    go_ret
    exact ⟨by rw [HR.out]; rfl, grow_below _ _⟩

set_option maxHeartbeats 1000000 in
theorem vrows_any (b : Nat) (W H C B : Int) (pl : Bool) (P : Int) (w : World) (hv : Vw w b W H C B pl P) (h : Shp W H C B P) :
    Calls Try.prog 64 #[.pointer (some ⟨b, 0, none⟩)] w fun e w' => e = .returned (.int .i64 (rowsS H C pl)) ∧ Below w.heap.size w w' := by
  have hl := hv.lt
  obtain ⟨v0, v1, v2, v3, v4, v5⟩ := hv
  obtain ⟨w1, w2, h1, h2, c1, c2, hb, hp, _⟩ := h
  obtain ⟨m1, m2⟩ := mul_bd (a := H) (b := C) (A := 64) (B := 4) (by omega) h2 (by omega) c2
  clear hb hp
  cases pl
  · go_enter Try.func64, Try.ntmps64
    go_wp2
    go_ret
    exact ⟨rfl, Below.refl _ _⟩
  · go_enter Try.func64, Try.ntmps64
    go_wp2
    refine wp_region_grow (by kernel_rfl) (by kernel_rfl) ?_
    repeat (go_big_quiet_step (fail))
    refine wpQuiet_nil ?_
    intro _ hw'
    obtain ⟨nq, hw''⟩ := hw'
    subst hw''
    go_wp2
    go_ret
    exact ⟨rfl, grow_below _ _⟩

set_option maxHeartbeats 1000000 in
theorem vstride_any (b : Nat) (W H C B : Int) (pl : Bool) (P : Int) (w : World) (hv : Vw w b W H C B pl P) (h : Shp W H C B P) :
    Calls Try.prog 38 #[.pointer (some ⟨b, 0, none⟩)] w fun e w' => e = .returned (.int .i64 (strS W C B pl P)) ∧ Below w.heap.size w w' := by
  have hl := hv.lt
  have hv' := hv
  obtain ⟨r1, r2⟩ := rowS_bd W H C B P pl h
  obtain ⟨s1, s2, s3, s4⟩ := strS_bd W H C B P pl h
  obtain ⟨v0, v1, v2, v3, v4, v5⟩ := hv'
  have hp := h.p
  have p1 : 1 ≤ P := by omega
  have p2 : P ≤ 8 := by omega
  have hd : 0 ≤ (rowS W C B pl + P - 1) / P ∧ (rowS W C B pl + P - 1) / P ≤ 520 := by
    generalize rowS W C B pl = r at *
    rcases hp with rfl | rfl | rfl | rfl <;> omega
  obtain ⟨d1, d2⟩ := hd
  unfold strS at *
  clear hp s3 s4
  go_enter Try.func38, Try.ntmps38
  go_wp2
  refine wp_region_grow (by kernel_rfl) (by kernel_rfl) ?_
  repeat (go_big_quiet_step ((go_at_call 65; exact calls_grow (vrow_any b W H C B pl P _ (hv.below (grow_below _ _)) h))))
  refine wpQuiet_nil ?_
  intro _ hw'
  obtain ⟨nq, hw''⟩ := hw'
  subst hw''
  go_wp2
  go_ret
  exact ⟨rfl, grow_below _ _⟩

set_option maxHeartbeats 1000000 in
theorem vplace_any (b : Nat) (W H C B : Int) (pl : Bool) (P : Int) (x y c : Int) (w : World) (hv : Vw w b W H C B pl P) (h : Shp W H C B P) (x0 : 0 ≤ x) (xW : x < W) (y0 : 0 ≤ y) (yH : y < H) (c0 : 0 ≤ c) (cC : c < C) :
    Calls Try.prog 71 #[.pointer (some ⟨b, 0, none⟩), .int .i64 x, .int .i64 y, .int .i64 c] w fun e w' => e = .returned (.int .i64 (plcS W H C B pl P x y c)) ∧ Below w.heap.size w w' := by
  have hl := hv.lt
  have hv' := hv
  obtain ⟨r1, r2⟩ := rowS_bd W H C B P pl h
  obtain ⟨s1, s2, s3, s4⟩ := strS_bd W H C B P pl h
  obtain ⟨v0, v1, v2, v3, v4, v5⟩ := hv'
  have h' := h
  obtain ⟨w1, w2, h1, h2, c1, c2, hb, hp, _⟩ := h'
  have b1 : 0 ≤ B ∧ B ≤ 16 := by omega
  obtain ⟨a1, a2⟩ := mul_bd (a := c) (b := H) (A := 4) (B := 64) c0 (by omega) (by omega) h2
  obtain ⟨a3, a4⟩ := mul_bd (a := c * H + y) (b := strS W C B pl P) (A := 320) (B := 520) (by omega) (by omega) (by omega) s2
  obtain ⟨a5, a6⟩ := mul_bd (a := x) (b := B) (A := 64) (B := 16) x0 (by omega) (by omega) b1.2
  obtain ⟨a7, a8⟩ := mul_bd (a := y) (b := strS W C B pl P) (A := 64) (B := 520) y0 (by omega) (by omega) s2
  obtain ⟨a9, a10⟩ := mul_bd (a := x) (b := C) (A := 64) (B := 4) x0 (by omega) (by omega) c2
  obtain ⟨a11, a12⟩ := mul_bd (a := x * C + c) (b := B) (A := 320) (B := 16) (by omega) (by omega) (by omega) b1.2
  clear hb hp s3 s4
  cases pl
  all_goals
    go_enter Try.func71, Try.ntmps71
    go_wp2
    refine wp_region_grow (by kernel_rfl) (by kernel_rfl) ?_
    repeat (go_big_quiet_step ((go_at_call 38; exact calls_grow (vstride_any b W H C B _ P _ (hv.below (grow_below _ _)) h))))
    refine wpQuiet_nil ?_
    intro _ hw'
    obtain ⟨nq, hw''⟩ := hw'
    subst hw''
    go_wp2
    go_ret
    exact ⟨rfl, grow_below _ _⟩

end Go.Proofs.Ytphfbjeaklpddaa

/- Layer 42: open. -/
namespace Go.Proofs.Ytphfbjeaklpddaa
open Go.RowKit

namespace Lay
/-- the image of a layout and octets -/
def img (L : Lay) (O : ByteArray) : Value := imgV L.W L.H L.C L.B L.pl L.P O
end Lay

/-- the octet at p of a string, 0 beyond -/
def octAt (O : ByteArray) (p : Int) : Int := ((O.data.toList[p.toNat]?.getD 0).toNat : Int)

def Lay.valid (L : Lay) (O : ByteArray) : Prop := L.ok ∧ (O.size : Int) = L.len ∧ ∀ p, 0 ≤ p → p < L.len → L.pad p → octAt O p = 0

theorem octAt_range (O : ByteArray) (p : Int) : 0 ≤ octAt O p ∧ octAt O p < 256 := by
  unfold octAt
  have := (O.data.toList[p.toNat]?.getD 0).toNat_lt
  omega

/-- block b holds the view of a layout, block b2 its octets -/
structure View (w : World) (base b b2 : Nat) (L : Lay) (g : Int → Int) : Prop where
  hd : Vw w b L.W L.H L.C L.B L.pl L.P
  fz : ∀ o, o < 8 → w.frozen? ⟨b, o, none⟩ = false
  o6 : ∃ s, w.cell? ⟨b, 6, none⟩ = some (.string s)
  sl : ∃ cap, w.cell? ⟨b, 7, none⟩ = some (.slice (some ⟨b2, 0, none⟩) L.len.toNat cap)
  bt : ∀ p : Nat, p < L.len.toNat → w.cell? ⟨b2, p, none⟩ = some (.int .u8 (g p)) ∧ w.frozen? ⟨b2, p, none⟩ = false
  ne : b ≠ b2
  b1 : base ≤ b
  b2 : base ≤ b2

/-- what '[]byte(s)' does -/
theorem conv_bytes {P : Program} (src dst : TypeId) (s : ByteArray) (hs : P.underlying src = some .string) (hd : P.underlying dst = some (.slice 5)) (he : P.underlying 5 = some (.int .u8)) :
    ∃ (cap : World → Nat) (C : World → Array Value), (∀ w, (convert src dst (.string s)).run P w = .ok (.slice (some ⟨w.heap.size, 0, none⟩) s.size (cap w)) (w.drew.alloc (.cells (C w) 5 ((C w).size, (C w).size + 1)))) ∧
      ∀ w (j : Nat), j < s.size → (C w)[j]? = some (.int .u8 (octAt s j)) := by
  refine ⟨fun w => grownCap w s.size 0 5, fun w => bytesRow s (grownCap w s.size 0 5), fun w => run_bytes_of_string w src dst _ s hs hd he, fun w j hj => ?_⟩
  have h' : j < s.data.size := hj
  rw [bytesRow_at _ _ _ h']
  unfold octAt
  rw [show s.data.toList[((j : Nat) : Int).toNat]? = some s.data[j] by simp]
  rfl

set_option maxHeartbeats 1000000 in
theorem open_bad1 (L : Lay) (O : ByteArray) (w : World) (h : shpB L.W L.H L.C L.B L.P = false) :
    Calls Try.prog 37 #[L.img O] w fun e w' => e = .returned (.tuple #[.pointer none, .int .i64 420]) ∧ Below w.heap.size w w' := by
  obtain ⟨W, H, C, B, pl, P⟩ := L
  unfold Lay.img
  dsimp only at h ⊢
  go_enter Try.func37, Try.ntmps37
  go_wp2
  go_step3
  go_wp2
  refine wp_region_grow (by kernel_rfl) (by kernel_rfl) ?_
  repeat (go_big_quiet_step ((go_at_call 63; exact calls_grow (shaped_any _ _ _ _ _ _ _ _))))
  refine wpQuiet_nil ?_
  intro _ hw'
  obtain ⟨nq, hw''⟩ := hw'
  subst hw''
  go_wp2
  rw [Exit.noGoto_ret]
  go_ret2
  refine ⟨rfl, (Below.trans ?_ ((grow_below _ _).mono ?_))⟩
  repeat (first | exact Below.refl _ _ | (refine Below.alloc ?_ ?_ _) | (refine Below.trans ?_ (Below.mono (by assumption) ?_)))
  all_goals ((try simp only [World.size_alloc]); omega)

set_option maxHeartbeats 1000000 in
theorem open_bad2 (L : Lay) (O : ByteArray) (w : World) (hok : L.ok) (hs : (O.size : Int) ≠ L.len) :
    Calls Try.prog 37 #[L.img O] w fun e w' => e = .returned (.tuple #[.pointer none, .int .i64 420]) ∧ Below w.heap.size w w' := by
  have h := (shpB_iff _ _ _ _ _).2 hok
  have hr := L.rows_bd hok
  have hst := L.row_str hok
  obtain ⟨W, H, C, B, pl, P⟩ := L
  unfold Lay.img
  unfold Lay.len Lay.rows Lay.str at *
  unfold Lay.row at *
  unfold Lay.ok at *
  dsimp only at h hs hok hr hst ⊢
  have hne : ((O.size : Int) != rowsS H C pl * strS W C B pl P) = true := by rw [bne_iff_ne]; exact hs
  obtain ⟨r1, r2⟩ := hr
  obtain ⟨_, s1, s2⟩ := hst
  obtain ⟨m1, m2⟩ := mul_bd (a := rowsS H C pl) (b := strS W C B pl P) (A := 256) (B := 520) (by omega) r2 (by omega) s2
  clear hs
  go_enter Try.func37, Try.ntmps37
  go_wp2
  go_step3
  go_wp2
  refine wp_region_grow (by kernel_rfl) (by kernel_rfl) ?_
  repeat (go_big_quiet_step (first
    | (go_at_call 63; exact calls_grow (shaped_any _ _ _ _ _ _ _ _))
    | (go_at_call 64; exact calls_grow (vrows_any _ W H C B pl P _ (Vw.below ⟨by go_simp, by go_simp, by go_simp, by go_simp, by go_simp, by go_simp⟩ (grow_below _ _)) hok))
    | (go_at_call 38; exact calls_grow (vstride_any _ W H C B pl P _ (Vw.below ⟨by go_simp, by go_simp, by go_simp, by go_simp, by go_simp, by go_simp⟩ (grow_below _ _)) hok))))
  refine wpQuiet_nil ?_
  intro _ hw'
  obtain ⟨nq, hw''⟩ := hw'
  subst hw''
  go_wp2
  rw [Exit.noGoto_ret]
  go_ret2
  refine ⟨rfl, (Below.trans ?_ ((grow_below _ _).mono ?_))⟩
  repeat (first | exact Below.refl _ _ | (refine Below.alloc ?_ ?_ _) | (refine Below.trans ?_ (Below.mono (by assumption) ?_)))
  all_goals ((try simp only [World.size_alloc]); omega)

end Go.Proofs.Ytphfbjeaklpddaa

/- Layer 42: open, its loop over the octets. -/
namespace Go.Proofs.Ytphfbjeaklpddaa
open Go.RowKit

set_option maxHeartbeats 2000000 in
theorem open_bad3 (L : Lay) (O : ByteArray) (w : World) (hok : L.ok) (hs : (O.size : Int) = L.len) (p0 : Nat) (hp : (p0 : Int) < L.len ∧ L.pad p0 ∧ octAt O p0 ≠ 0) :
    Calls Try.prog 37 #[L.img O] w fun e w' => e = .returned (.tuple #[.pointer none, .int .i64 420]) ∧ Below w.heap.size w w' := by
  have h := (shpB_iff _ _ _ _ _).2 hok
  have hr := L.rows_bd hok
  have hst := L.row_str hok
  obtain ⟨W, H, C, B, pl, P⟩ := L
  unfold Lay.img
  unfold Lay.len Lay.rows Lay.str at *
  unfold Lay.pad Lay.row Lay.str at *
  unfold Lay.ok at *
  dsimp only at h hs hok hr hst hp ⊢
  have hne : ((O.size : Int) != rowsS H C pl * strS W C B pl P) = false := by rw [hs]; simp
  obtain ⟨r1, r2⟩ := hr
  obtain ⟨s0, s1, s2⟩ := hst
  obtain ⟨m1, m2⟩ := mul_bd (a := rowsS H C pl) (b := strS W C B pl P) (A := 256) (B := 520) (by omega) r2 (by omega) s2
  obtain ⟨cap, CF, hconv, hCF⟩ := conv_bytes (P := Try.prog) 9 70 O (by kernel_rfl) (by kernel_rfl) (by kernel_rfl)
  have hsz : (O.size : Int) ≤ 133120 := by omega
  have HS := Lib.hid hs
  have HP := Lib.hid hp
  have HC := Lib.hid hCF
  clear hs hp hCF
  go_enter Try.func37, Try.ntmps37
  go_wp2
  go_step3
  go_wp2
  refine wp_region_grow (by kernel_rfl) (by kernel_rfl) ?_
  repeat (go_big_quiet_step (first
    | (go_at_call 63; exact calls_grow (shaped_any _ _ _ _ _ _ _ _))
    | (go_at_call 64; exact calls_grow (vrows_any _ W H C B pl P _ (Vw.below ⟨by go_simp, by go_simp, by go_simp, by go_simp, by go_simp, by go_simp⟩ (grow_below _ _)) hok))
    | (go_at_call 38; exact calls_grow (vstride_any _ W H C B pl P _ (Vw.below ⟨by go_simp, by go_simp, by go_simp, by go_simp, by go_simp, by go_simp⟩ (grow_below _ _)) hok))))
  refine wpQuiet_nil ?_
  intro _ hw'
  obtain ⟨nq, hw''⟩ := hw'
  subst hw''
  have hb1 := grow_below ((w.alloc (.cells #[.int .i64 W, .int .i64 H, .int .i64 C, .int .i64 B, .bool pl, .int .i64 P, .string O] 31)).alloc (.cells #[.int .i64 W, .int .i64 H, .int .i64 C, .int .i64 B, .bool pl, .int .i64 P, .string O, .slice none 0 0] 92)) nq
  generalize grow _ nq = w1 at hb1 ⊢
  obtain ⟨hc1, hf1, hz1⟩ := after hb1
  simp only [World.size_alloc] at hz1
  have hx1 : w.heap.size + 1 < w1.heap.size := by omega
  have hy1 : w.heap.size < w1.heap.size := by omega
  go_wp2_with (first
    | (go_at_call 65; refine (vrow_any _ W H C B pl P _ ⟨by go_simp, by go_simp, by go_simp, by go_simp, by go_simp, by go_simp⟩ hok).mono ?_; rintro e w2 ⟨rfl, hb2⟩; obtain ⟨hc2, hf2, hz2⟩ := after hb2; simp only [World.size_alloc, World.size_drew, World.size_setCell] at hz2; have hx2 : w.heap.size + 1 < w2.heap.size := (by omega); have hy2 : w1.heap.size < w2.heap.size := (by omega))
    | (go_at_call 38; refine (vstride_any _ W H C B pl P _ ⟨by go_simp, by go_simp, by go_simp, by go_simp, by go_simp, by go_simp⟩ hok).mono ?_; rintro e w3 ⟨rfl, hb3⟩; obtain ⟨hc3, hf3, hz3⟩ := after hb3; have hx3 : w.heap.size + 1 < w3.heap.size := (by omega); have hy3 : w1.heap.size < w3.heap.size := (by omega)))
  have hB : Below w.heap.size w w3 := by
    refine Below.trans (b := ((w1.setCell ⟨w.heap.size + 1, 7, none⟩ (.slice (some ⟨w1.heap.size, 0, none⟩) O.size (cap w1))).alloc (.cells (CF w1) 5 ((CF w1).size, (CF w1).size + 1))).drew) ?_ ((hb2.trans (hb3.mono hb2.size)).mono (by simp only [World.size_alloc, World.size_drew, World.size_setCell]; omega))
    refine Below.drew (Below.alloc (Below.setCell (Below.trans ?_ (hb1.mono (by simp only [World.size_alloc]; omega))) (by simp) _) (by simp only [World.size_setCell]; omega) _)
    exact ((Below.refl _ _).alloc (Nat.le_refl _) _).alloc (by simp) _
  have hcell : ∀ j : Nat, j < O.size → w3.cell? ⟨w1.heap.size, j, none⟩ = some (.int .u8 (octAt O j)) := by
    intro j hj
    rw [hc3 _ _ (by omega), hc2 _ _ (by simp only [World.size_alloc, World.size_drew, World.size_setCell]; omega)]
    show ((w1.setCell ⟨w.heap.size + 1, 7, none⟩ (.slice (some ⟨w1.heap.size, 0, none⟩) O.size (cap w1))).alloc (.cells (CF w1) 5 ((CF w1).size, (CF w1).size + 1))).cell? ⟨w1.heap.size, j, none⟩ = _
    have := World.cell?_alloc_mark (w1.setCell ⟨w.heap.size + 1, 7, none⟩ (.slice (some ⟨w1.heap.size, 0, none⟩) O.size (cap w1))) (CF w1) 5 ((CF w1).size, (CF w1).size + 1) j
    rw [World.size_setCell] at this
    rw [this]
    exact HC.out w1 j hj
  have hslice : w3.cell? ⟨w.heap.size + 1, 7, none⟩ = some (.slice (some ⟨w1.heap.size, 0, none⟩) O.size (cap w1)) := by
    rw [hc3 _ _ (by omega), hc2 _ _ (by simp only [World.size_alloc, World.size_drew, World.size_setCell]; omega)]
    go_simp
  have HCELL := Lib.hid hcell
  have HB := Lib.hid hB
  clear hc1 hc2 hc3 hf1 hf2 hf3 hb1 hb2 hb3 hB hcell
  go_step3
  go_wp2
  go_loop [41] (fun i => ∃ k : Nat, k ≤ p0 ∧ i = .int .i64 k) (fun i => O.size - (intOf i).toNat)
  case atStart => exact ⟨0, Nat.zero_le _, rfl⟩
  case round =>
    obtain ⟨k, hk, rfl⟩ := hrel
    have hp1 := HP.out.1
    have hs' := HS.out
    have hlt : k < O.size := by omega
    clear hp1 hs'
    have hcell := HCELL.out k hlt
    have hrange := octAt_range O k
    obtain ⟨g0, g1⟩ := hrange
    by_cases hpad : (k : Int) % strS W C B pl P < rowS W C B pl
    · have hne0 : k ≠ p0 := by rintro rfl; have := HP.out.2.1; omega
      have hk' : k < p0 := by omega
      clear hne0
      go_wp2
      go_round
      case rel => exact ⟨k + 1, by omega, by go_num⟩
      case measure => simp [intOf]; omega
    · cases h0 : (octAt O k != 0)
      · have hne0 : k ≠ p0 := by rintro rfl; have := HP.out.2.2; rw [bne_eq_false_iff_eq] at h0; exact this h0
        have hk' : k < p0 := by omega
        clear hne0
        go_wp2
        go_round
        case rel => exact ⟨k + 1, by omega, by go_num⟩
        case measure => simp [intOf]; omega
      · go_wp2
        try rw [Exit.noGoto_ret]
        go_ret2
        exact ⟨rfl, HB.out⟩

/-- what open does to a valid image -/
def Opened (L : Lay) (O : ByteArray) (w : World) : Ending → World → Prop := fun e w' =>
  ∃ b b2 : Nat, e = .returned (.tuple #[.pointer (some ⟨b, 0, none⟩), .int .i64 0]) ∧ View w' w.heap.size b b2 L (octAt O) ∧ Below w.heap.size w w'

set_option maxHeartbeats 2000000 in
theorem open_good (L : Lay) (O : ByteArray) (w : World) (hok : L.ok) (hs : (O.size : Int) = L.len) (hp : ∀ p, 0 ≤ p → p < L.len → L.pad p → octAt O p = 0) :
    Calls Try.prog 37 #[L.img O] w (Opened L O w) := by
  have h := (shpB_iff _ _ _ _ _).2 hok
  have hr := L.rows_bd hok
  have hst := L.row_str hok
  obtain ⟨W, H, C, B, pl, P⟩ := L
  unfold Lay.img
  unfold Lay.len Lay.rows Lay.str at *
  unfold Lay.pad Lay.row Lay.str at *
  unfold Lay.ok at *
  dsimp only at h hs hok hr hst hp ⊢
  have hne : ((O.size : Int) != rowsS H C pl * strS W C B pl P) = false := by rw [hs]; simp
  obtain ⟨r1, r2⟩ := hr
  obtain ⟨s0, s1, s2⟩ := hst
  obtain ⟨m1, m2⟩ := mul_bd (a := rowsS H C pl) (b := strS W C B pl P) (A := 256) (B := 520) (by omega) r2 (by omega) s2
  obtain ⟨cap, CF, hconv, hCF⟩ := conv_bytes (P := Try.prog) 9 70 O (by kernel_rfl) (by kernel_rfl) (by kernel_rfl)
  have hsz : (O.size : Int) ≤ 133120 := by omega
  have HS := Lib.hid hs
  have HP := Lib.hid hp
  have HC := Lib.hid hCF
  clear hs hp hCF
  go_enter Try.func37, Try.ntmps37
  go_wp2
  go_step3
  go_wp2
  refine wp_region_grow (by kernel_rfl) (by kernel_rfl) ?_
  repeat (go_big_quiet_step (first
    | (go_at_call 63; exact calls_grow (shaped_any _ _ _ _ _ _ _ _))
    | (go_at_call 64; exact calls_grow (vrows_any _ W H C B pl P _ (Vw.below ⟨by go_simp, by go_simp, by go_simp, by go_simp, by go_simp, by go_simp⟩ (grow_below _ _)) hok))
    | (go_at_call 38; exact calls_grow (vstride_any _ W H C B pl P _ (Vw.below ⟨by go_simp, by go_simp, by go_simp, by go_simp, by go_simp, by go_simp⟩ (grow_below _ _)) hok))))
  refine wpQuiet_nil ?_
  intro _ hw'
  obtain ⟨nq, hw''⟩ := hw'
  subst hw''
  have hb1 := grow_below ((w.alloc (.cells #[.int .i64 W, .int .i64 H, .int .i64 C, .int .i64 B, .bool pl, .int .i64 P, .string O] 31)).alloc (.cells #[.int .i64 W, .int .i64 H, .int .i64 C, .int .i64 B, .bool pl, .int .i64 P, .string O, .slice none 0 0] 92)) nq
  generalize grow _ nq = w1 at hb1 ⊢
  obtain ⟨hc1, hf1, hz1⟩ := after hb1
  simp only [World.size_alloc] at hz1
  have hx1 : w.heap.size + 1 < w1.heap.size := by omega
  have hy1 : w.heap.size < w1.heap.size := by omega
  go_wp2_with (first
    | (go_at_call 65; refine (vrow_any _ W H C B pl P _ ⟨by go_simp, by go_simp, by go_simp, by go_simp, by go_simp, by go_simp⟩ hok).mono ?_; rintro e w2 ⟨rfl, hb2⟩; obtain ⟨hc2, hf2, hz2⟩ := after hb2; simp only [World.size_alloc, World.size_drew, World.size_setCell] at hz2; have hx2 : w.heap.size + 1 < w2.heap.size := (by omega); have hy2 : w1.heap.size < w2.heap.size := (by omega))
    | (go_at_call 38; refine (vstride_any _ W H C B pl P _ ⟨by go_simp, by go_simp, by go_simp, by go_simp, by go_simp, by go_simp⟩ hok).mono ?_; rintro e w3 ⟨rfl, hb3⟩; obtain ⟨hc3, hf3, hz3⟩ := after hb3; have hx3 : w.heap.size + 1 < w3.heap.size := (by omega); have hy3 : w1.heap.size < w3.heap.size := (by omega)))
  have hB : Below w.heap.size w w3 := by
    refine Below.trans (b := ((w1.setCell ⟨w.heap.size + 1, 7, none⟩ (.slice (some ⟨w1.heap.size, 0, none⟩) O.size (cap w1))).alloc (.cells (CF w1) 5 ((CF w1).size, (CF w1).size + 1))).drew) ?_ ((hb2.trans (hb3.mono hb2.size)).mono (by simp only [World.size_alloc, World.size_drew, World.size_setCell]; omega))
    refine Below.drew (Below.alloc (Below.setCell (Below.trans ?_ (hb1.mono (by simp only [World.size_alloc]; omega))) (by simp) _) (by simp only [World.size_setCell]; omega) _)
    exact ((Below.refl _ _).alloc (Nat.le_refl _) _).alloc (by simp) _
  have hcell : ∀ j : Nat, j < O.size → w3.cell? ⟨w1.heap.size, j, none⟩ = some (.int .u8 (octAt O j)) := by
    intro j hj
    rw [hc3 _ _ (by omega), hc2 _ _ (by simp only [World.size_alloc, World.size_drew, World.size_setCell]; omega)]
    show ((w1.setCell ⟨w.heap.size + 1, 7, none⟩ (.slice (some ⟨w1.heap.size, 0, none⟩) O.size (cap w1))).alloc (.cells (CF w1) 5 ((CF w1).size, (CF w1).size + 1))).cell? ⟨w1.heap.size, j, none⟩ = _
    have := World.cell?_alloc_mark (w1.setCell ⟨w.heap.size + 1, 7, none⟩ (.slice (some ⟨w1.heap.size, 0, none⟩) O.size (cap w1))) (CF w1) 5 ((CF w1).size, (CF w1).size + 1) j
    rw [World.size_setCell] at this
    rw [this]
    exact HC.out w1 j hj
  have hslice : w3.cell? ⟨w.heap.size + 1, 7, none⟩ = some (.slice (some ⟨w1.heap.size, 0, none⟩) O.size (cap w1)) := by
    rw [hc3 _ _ (by omega), hc2 _ _ (by simp only [World.size_alloc, World.size_drew, World.size_setCell]; omega)]
    go_simp
  have hview : View w3 w.heap.size (w.heap.size + 1) w1.heap.size ⟨W, H, C, B, pl, P⟩ (octAt O) := by
    have c0 : ∀ o, w3.cell? ⟨w.heap.size + 1, o, none⟩ = ((w1.setCell ⟨w.heap.size + 1, 7, none⟩ (.slice (some ⟨w1.heap.size, 0, none⟩) O.size (cap w1))).alloc (.cells (CF w1) 5 ((CF w1).size, (CF w1).size + 1))).cell? ⟨w.heap.size + 1, o, none⟩ := fun o => by
      rw [hc3 _ _ (by omega), hc2 _ _ (by simp only [World.size_alloc, World.size_drew, World.size_setCell]; omega)]; rfl
    have f0 : ∀ o, w3.frozen? ⟨w.heap.size + 1, o, none⟩ = ((w1.setCell ⟨w.heap.size + 1, 7, none⟩ (.slice (some ⟨w1.heap.size, 0, none⟩) O.size (cap w1))).alloc (.cells (CF w1) 5 ((CF w1).size, (CF w1).size + 1))).frozen? ⟨w.heap.size + 1, o, none⟩ := fun o => by
      rw [hf3 _ _ (by omega), hf2 _ _ (by simp only [World.size_alloc, World.size_drew, World.size_setCell]; omega)]; rfl
    have hs' := HS.out
    have e1 : (Lay.len ⟨W, H, C, B, pl, P⟩).toNat = O.size := by show (rowsS H C pl * strS W C B pl P).toNat = _; omega
    refine ⟨⟨?_, ?_, ?_, ?_, ?_, ?_⟩, fun o ho => ?_, ⟨O, ?_⟩, ⟨cap w1, ?_⟩, fun q hq => ⟨hcell q (by omega), ?_⟩, by omega, by omega, by omega⟩
    · rw [c0]; go_simp
    · rw [c0]; go_simp
    · rw [c0]; go_simp
    · rw [c0]; go_simp
    · rw [c0]; go_simp
    · rw [c0]; go_simp
    · rw [f0, World.frozen?_alloc_old _ _ _ (by simp only [World.size_setCell]; omega), World.frozen?_setCell, hf1 _ _ (by simp only [World.size_alloc]; omega)]; simp
    · rw [c0]; go_simp
    · rw [e1]; exact hslice
    · rw [hf3 _ _ (by omega), hf2 _ _ (by simp only [World.size_alloc, World.size_drew, World.size_setCell]; omega)]
      show ((w1.setCell ⟨w.heap.size + 1, 7, none⟩ (.slice (some ⟨w1.heap.size, 0, none⟩) O.size (cap w1))).alloc (.cells (CF w1) 5 ((CF w1).size, (CF w1).size + 1))).frozen? ⟨w1.heap.size, q, none⟩ = _
      have := World.frozen?_alloc_mark (w1.setCell ⟨w.heap.size + 1, 7, none⟩ (.slice (some ⟨w1.heap.size, 0, none⟩) O.size (cap w1))) (CF w1) 5 (CF w1).size ((CF w1).size + 1) q
      rw [World.size_setCell] at this
      rw [this]
      have h1 := HC.out w1 q (by omega)
      have h2 := (Array.getElem?_eq_some_iff.1 h1).1
      simp; omega
  have HV := Lib.hid hview
  clear hview
  have HCELL := Lib.hid hcell
  have HB := Lib.hid hB
  clear hc1 hc2 hc3 hf1 hf2 hf3 hb1 hb2 hb3 hB hcell
  go_step3
  go_wp2
  go_loop [41] (fun i => ∃ k : Nat, k ≤ O.size ∧ i = .int .i64 k) (fun i => O.size - (intOf i).toNat)
  case atStart => exact ⟨0, Nat.zero_le _, rfl⟩
  case round =>
    obtain ⟨k, hk, rfl⟩ := hrel
    by_cases hlt : k < O.size
    · have hcell := HCELL.out k hlt
      by_cases hpad : (k : Int) % strS W C B pl P < rowS W C B pl
      · go_wp2
        go_round
        case rel => exact ⟨k + 1, by omega, by go_num⟩
        case measure => simp [intOf]; omega
      · have h0 : octAt O k = 0 := HP.out k (by omega) (by have := HS.out; omega) (by omega)
        rw [h0] at hcell
        clear h0
        go_wp2
        go_round
        case rel => exact ⟨k + 1, by omega, by go_num⟩
        case measure => simp [intOf]; omega
    · go_wp2
      try rw [Exit.noGoto_ret]
      go_ret2
      exact ⟨w.heap.size + 1, w1.heap.size, rfl, HV.out, HB.out⟩

end Go.Proofs.Ytphfbjeaklpddaa

/-  -/
namespace Go.Proofs.Ytphfbjeaklpddaa
open Go.RowKit

set_option maxHeartbeats 400000 in
theorem write8_any (bx b b2 len cap : Nat) (p n : Int) (w : World) (old : Value)
    (hx : w.cell? ⟨bx, 0, none⟩ = some (.pointer (some ⟨b, 0, none⟩))) (hs : w.cell? ⟨b, 7, none⟩ = some (.slice (some ⟨b2, 0, none⟩) len cap))
    (p0 : 0 ≤ p) (p1 : p < len) (hc : w.cell? ⟨b2, p.toNat, none⟩ = some old) (hf : w.frozen? ⟨b2, p.toNat, none⟩ = false) :
    Calls Try.prog 75 #[.int .i64 p, .int .i64 n, .pointer (some ⟨bx, 0, none⟩)] w fun e w' => e = .returned (.tuple #[]) ∧ w' = w.setCell ⟨b2, p.toNat, none⟩ (.int .u8 (n % 256)) := by
  go_enter Try.func75, Try.ntmps75
  go_wp2
  go_end0
  exact ⟨rfl, rfl⟩

set_option maxRecDepth 100000 in
set_option maxHeartbeats 400000 in
theorem write16_any (bx b b2 len cap : Nat) (p n : Int) (w : World) (old old2 : Value)
    (hx : w.cell? ⟨bx, 0, none⟩ = some (.pointer (some ⟨b, 0, none⟩))) (hs : w.cell? ⟨b, 7, none⟩ = some (.slice (some ⟨b2, 0, none⟩) len cap))
    (p0 : 0 ≤ p) (p1 : p + 1 < len) (hl : (len : Int) ≤ 133120) (hc : w.cell? ⟨b2, p.toNat, none⟩ = some old) (hf : w.frozen? ⟨b2, p.toNat, none⟩ = false)
    (hc2 : w.cell? ⟨b2, (p + 1).toNat, none⟩ = some old2) (hf2 : w.frozen? ⟨b2, (p + 1).toNat, none⟩ = false) :
    Calls Try.prog 76 #[.int .i64 p, .int .i64 n, .pointer (some ⟨bx, 0, none⟩)] w fun e w' => e = .returned (.tuple #[]) ∧ w' = ((w.setCell ⟨b2, p.toNat, none⟩ (.int .u8 (n / 256 % 256))).setCell ⟨b2, (p + 1).toNat, none⟩ (.int .u8 (n % 256))).drew := by
  go_enter Try.func76, Try.ntmps76
  go_wp2
  go_region
  go_end0
  exact ⟨rfl, rfl⟩

/-! ### block b may have turned, nothing else of what was there -/
structure Upd (b : Nat) (w w' : World) : Prop where
  os : w'.os = w.os
  tape : w'.tape = w.tape
  output : w'.output = w.output
  size : w.heap.size ≤ w'.heap.size
  block : ∀ k, k < w.heap.size → k ≠ b → w'.heap[k]? = w.heap[k]?

theorem Upd.refl (b : Nat) (w : World) : Upd b w w := ⟨rfl, rfl, rfl, Nat.le_refl _, fun _ _ _ => rfl⟩
theorem Upd.trans {b : Nat} {u v w : World} (h : Upd b u v) (k : Upd b v w) : Upd b u w :=
  ⟨k.os.trans h.os, k.tape.trans h.tape, k.output.trans h.output, Nat.le_trans h.size k.size, fun i hi hne => (k.block i (Nat.lt_of_lt_of_le hi h.size) hne).trans (h.block i hi hne)⟩
theorem Upd.of_below {b : Nat} {w w' : World} (h : Below w.heap.size w w') : Upd b w w' := ⟨h.os, h.tape, h.output, h.size, fun k hk _ => h.block k hk⟩
theorem Upd.setCell (b o : Nat) (w : World) (v : Value) : Upd b w (w.setCell ⟨b, o, none⟩ v) := ⟨rfl, rfl, rfl, by simp, fun k _ hne => Below.heap_setCell w ⟨b, o, none⟩ v k hne⟩
theorem Upd.drew (b : Nat) (w : World) : Upd b w w.drew := ⟨rfl, rfl, rfl, Nat.le_refl _, fun _ _ _ => rfl⟩
theorem Upd.cell {b : Nat} {w w' : World} (h : Upd b w w') {p : Addr} (hp : p.block < w.heap.size) (hne : p.block ≠ b) : w'.cell? p = w.cell? p := World.cell?_of_block (w := w) (h.block p.block hp hne)
theorem Upd.frozen {b : Nat} {w w' : World} (h : Upd b w w') {p : Addr} (hp : p.block < w.heap.size) (hne : p.block ≠ b) : w'.frozen? p = w.frozen? p := World.frozen?_of_block (w := w) (h.block p.block hp hne)
theorem Upd.below {b B : Nat} {w w' : World} (h : Upd b w w') (hb : B ≤ b) (hB : B ≤ w.heap.size) : Below B w w' :=
  ⟨h.os, h.tape, h.output, h.size, fun k hk => h.block k (by omega) (by omega)⟩

/-- .. and the same list of numbers elsewhere -/
theorem Ints.upd {w w' : World} {a : Option Addr} {xs : List Int} {b : Nat} (h : Ints w a xs) (hb : Upd b w w') (hne : ∀ c off, a = some ⟨c, off, none⟩ → c ≠ b) : Ints w' a xs := by
  intro hx
  obtain ⟨c, off, e, g⟩ := h hx
  refine ⟨c, off, e, fun i hi => ?_⟩
  have := g i hi
  rw [hb.cell (p := ⟨c, off + i, none⟩) (World.block_lt_of_cell? _ _ this) (hne c off e)]
  exact this

/-! ### the view's octets, written -/
theorem View.lt {w : World} {base b b2 : Nat} {L : Lay} {g : Int → Int} (h : View w base b b2 L g) : b < w.heap.size := World.block_lt_of_cell? _ _ h.hd.c0

theorem View.lt2 {w : World} {base b b2 : Nat} {L : Lay} {g : Int → Int} (h : View w base b b2 L g) (hok : L.ok) : b2 < w.heap.size := by
  have := (h.bt 0 (by have := L.len_bd hok; omega)).1
  exact World.block_lt_of_cell? _ _ this

theorem View.of {w w' : World} {base b b2 : Nat} {L : Lay} {g g' : Int → Int} (h : View w base b b2 L g) (hc : ∀ o, w'.cell? ⟨b, o, none⟩ = w.cell? ⟨b, o, none⟩) (hf : ∀ o, w'.frozen? ⟨b, o, none⟩ = w.frozen? ⟨b, o, none⟩)
    (hb : ∀ p : Nat, p < L.len.toNat → w'.cell? ⟨b2, p, none⟩ = some (.int .u8 (g' p)) ∧ w'.frozen? ⟨b2, p, none⟩ = false) : View w' base b b2 L g' :=
  ⟨h.hd.of_cells hc, fun o ho => (hf o).trans (h.fz o ho), by obtain ⟨s, hs⟩ := h.o6; exact ⟨s, (hc 6).trans hs⟩, by obtain ⟨c, hs⟩ := h.sl; exact ⟨c, (hc 7).trans hs⟩, hb, h.ne, h.b1, h.b2⟩

theorem View.below {w w' : World} {base b b2 : Nat} {L : Lay} {g : Int → Int} (h : View w base b b2 L g) (hok : L.ok) (hb : Below w.heap.size w w') : View w' base b b2 L g :=
  h.of (fun o => hb.cell (p := ⟨b, o, none⟩) h.lt) (fun o => hb.frozen (p := ⟨b, o, none⟩) h.lt)
    fun p hp => by rw [hb.cell (p := ⟨b2, p, none⟩) (h.lt2 hok), hb.frozen (p := ⟨b2, p, none⟩) (h.lt2 hok)]; exact h.bt p hp

/-- another view, its octets elsewhere, while block c turns -/
theorem View.upd {w w' : World} {base b b2 c : Nat} {L : Lay} {g : Int → Int} (h : View w base b b2 L g) (hok : L.ok) (hb : Upd c w w') (h1 : b ≠ c) (h2 : b2 ≠ c) : View w' base b b2 L g :=
  h.of (fun o => hb.cell (p := ⟨b, o, none⟩) h.lt h1) (fun o => hb.frozen (p := ⟨b, o, none⟩) h.lt h1)
    fun p hp => by rw [hb.cell (p := ⟨b2, p, none⟩) (h.lt2 hok) h2, hb.frozen (p := ⟨b2, p, none⟩) (h.lt2 hok) h2]; exact h.bt p hp

theorem View.congr {w : World} {base b b2 : Nat} {L : Lay} {g g' : Int → Int} (h : View w base b b2 L g) (hg : ∀ p, 0 ≤ p → p < L.len → g p = g' p) : View w base b b2 L g' :=
  h.of (fun _ => rfl) (fun _ => rfl) fun p hp => by rw [← hg p (by omega) (by omega)]; exact h.bt p hp

theorem cell_set_ne {w : World} {b b2 q o : Nat} {v : Value} (h : b ≠ b2) : (w.setCell ⟨b2, q, none⟩ v).cell? ⟨b, o, none⟩ = w.cell? ⟨b, o, none⟩ :=
  World.cell?_setCell_other w ⟨b2, q, none⟩ ⟨b, o, none⟩ v (by intro e; cases e; exact h rfl)

theorem View.set8 {w : World} {base b b2 : Nat} {L : Lay} {f : Int → Int → Int → Int} (h : View w base b b2 L (L.octF f)) (hok : L.ok) (hB : L.n = 1) {x y c : Int} (hd : L.dom x y c) (v : Int) :
    View (w.setCell ⟨b2, (L.plc x y c).toNat, none⟩ (.int .u8 (v % 256))) base b b2 L (L.octF (Lay.upd f x y c v)) := by
  obtain ⟨p0, p1, _⟩ := L.coords hok hd (d := 0) (by omega) (by omega)
  rw [Int.add_zero] at p0 p1
  refine h.of (fun o => cell_set_ne h.ne) (fun o => by rw [World.frozen?_setCell]) fun q hq => ⟨?_, by rw [World.frozen?_setCell]; exact (h.bt q hq).2⟩
  rw [L.octF_upd hok hd f (by omega) (by omega)]
  by_cases e : q = (L.plc x y c).toNat
  · subst e
    rw [World.cell?_setCell_same _ _ _ (h.bt _ hq).1, if_pos (by omega)]
    unfold Lay.byt
    rw [if_neg (by omega)]
  · rw [World.cell?_setCell_other _ _ _ _ (by intro e'; cases e'; exact e rfl), if_neg (by omega)]
    exact (h.bt q hq).1

theorem View.set16 {w : World} {base b b2 : Nat} {L : Lay} {f : Int → Int → Int → Int} (h : View w base b b2 L (L.octF f)) (hok : L.ok) (hB : L.n = 2) {x y c : Int} (hd : L.dom x y c) (v : Int) :
    View ((w.setCell ⟨b2, (L.plc x y c).toNat, none⟩ (.int .u8 (v / 256 % 256))).setCell ⟨b2, (L.plc x y c + 1).toNat, none⟩ (.int .u8 (v % 256))).drew base b b2 L (L.octF (Lay.upd f x y c v)) := by
  obtain ⟨p0, p1, _⟩ := L.coords hok hd (d := 0) (by omega) (by omega)
  obtain ⟨q0, q1, _⟩ := L.coords hok hd (d := 1) (by omega) (by omega)
  rw [Int.add_zero] at p0 p1
  refine h.of (fun o => (cell_set_ne h.ne).trans (cell_set_ne h.ne)) (fun o => by rw [World.frozen?_drew, World.frozen?_setCell, World.frozen?_setCell]) fun q hq => ⟨?_, by rw [World.frozen?_drew, World.frozen?_setCell, World.frozen?_setCell]; exact (h.bt q hq).2⟩
  rw [L.octF_upd hok hd f (by omega) (by omega), World.cell?_drew]
  by_cases e : q = (L.plc x y c + 1).toNat
  · subst e
    have h1 : (w.setCell ⟨b2, (L.plc x y c).toNat, none⟩ (.int .u8 (v / 256 % 256))).cell? ⟨b2, (L.plc x y c + 1).toNat, none⟩ = _ := (World.cell?_setCell_other _ _ _ _ (by intro e'; have e2 := congrArg Addr.off e'; dsimp only at e2; omega)).trans (h.bt _ hq).1
    rw [World.cell?_setCell_same _ _ _ h1, if_pos (by omega)]
    unfold Lay.byt
    rw [if_neg (by omega)]
  · rw [World.cell?_setCell_other _ _ _ _ (by intro e'; cases e'; exact e rfl)]
    by_cases e2 : q = (L.plc x y c).toNat
    · subst e2
      rw [World.cell?_setCell_same _ _ _ (h.bt _ hq).1, if_pos (by omega)]
      unfold Lay.byt
      rw [if_pos ⟨hB, by omega⟩]
    · rw [World.cell?_setCell_other _ _ _ _ (by intro e'; cases e'; exact e2 rfl), if_neg (by omega)]
      exact (h.bt q hq).1

/-- the pixel at x, y, its first k samples changed -/
def putF (f : Int → Int → Int → Int) (x y : Int) (xs : List Int) (k : Nat) : Int → Int → Int → Int :=
  fun i j c => if i = x ∧ j = y ∧ 0 ≤ c ∧ c < k then xs[c.toNat]?.getD 0 else f i j c

theorem putF_zero (f : Int → Int → Int → Int) (x y : Int) (xs : List Int) : putF f x y xs 0 = f := by
  funext i j c
  unfold putF
  rw [if_neg (by omega)]

theorem putF_succ (f : Int → Int → Int → Int) (x y : Int) (xs : List Int) (k : Nat) (v : Int) (hv : xs[k]? = some v) : Lay.upd (putF f x y xs k) x y k v = putF f x y xs (k + 1) := by
  funext i j c
  unfold Lay.upd putF
  by_cases e : i = x ∧ j = y
  · obtain ⟨rfl, rfl⟩ := e
    by_cases ec : c = k
    · subst ec
      rw [if_pos ⟨rfl, rfl, rfl⟩, if_pos ⟨rfl, rfl, by omega, by omega⟩, Int.toNat_natCast, hv]; rfl
    · rw [if_neg (by rintro ⟨_, _, h⟩; exact ec h)]
      by_cases e2 : 0 ≤ c ∧ c < k
      · rw [if_pos ⟨rfl, rfl, e2.1, e2.2⟩, if_pos ⟨rfl, rfl, e2.1, by omega⟩]
      · rw [if_neg (by omega), if_neg (by omega)]
  · rw [if_neg (by omega), if_neg (by omega), if_neg (by omega)]

end Go.Proofs.Ytphfbjeaklpddaa

/- Layer 42: put. -/
namespace Go.Proofs.Ytphfbjeaklpddaa
open Go.RowKit

/-- what put does -/
def PutPost (L : Lay) (base b b2 : Nat) (f : Int → Int → Int → Int) (x y : Int) (xs : List Int) (w : World) : Ending → World → Prop := fun e w' =>
  e = .returned (.tuple #[]) ∧ View w' base b b2 L (L.octF (putF f x y xs xs.length)) ∧ Upd b2 w w'

set_option maxRecDepth 100000 in
set_option maxHeartbeats 1000000 in
theorem put8 (L : Lay) (hok : L.ok) (hn : L.n = 1) (hB : L.B = 8) (base b b2 : Nat) (f : Int → Int → Int → Int) (x y : Int) (xs : List Int) (a : Option Addr) (cap : Nat) (w : World)
    (hv : View w base b b2 L (L.octF f)) (x0 : 0 ≤ x) (xW : x < L.W) (y0 : 0 ≤ y) (yH : y < L.H) (hxs : Ints w a xs) (hlen : (xs.length : Int) ≤ L.C) (hna : ∀ c off, a = some ⟨c, off, none⟩ → c ≠ b2) :
    Calls Try.prog 51 #[.pointer (some ⟨b, 0, none⟩), .int .i64 x, .int .i64 y, .slice a xs.length cap] w (PutPost L base b b2 f x y xs w) := by
  have hlb := L.len_bd hok
  have hc2 := hok.c2
  have hl : b < w.heap.size := hv.lt
  have hl2 := hv.lt2 hok
  have hv3 := hv.hd.c3
  rw [hB] at hv3
  clear hB
  have hmm := @run_makeMap Try.prog
  obtain ⟨hi1, hi2, hi3, hi4⟩ := map2 (P := Try.prog) (q := .i64) Try.underlying108 Try.underlying3 (w.alloc (.cells #[.pointer (some ⟨b, 0, none⟩)] 80)) (w.heap.size + 1) (by simp) 8 16
    (.func (.func 75) #[] #[.pointer (some ⟨w.heap.size, 0, none⟩)]) (.func (.func 76) #[] #[.pointer (some ⟨w.heap.size, 0, none⟩)]) (by decide)
  obtain ⟨W1, hW1⟩ : ∃ W1, W1 = (w.alloc (.cells #[.pointer (some ⟨b, 0, none⟩)] 80)).alloc (.map #[{ key := .int .i64 8, val := .func (.func 75) #[] #[.pointer (some ⟨w.heap.size, 0, none⟩)], born := 0 }, { key := .int .i64 16, val := .func (.func 76) #[] #[.pointer (some ⟨w.heap.size, 0, none⟩)], born := 1 }] 2) := ⟨_, rfl⟩
  have hbW : Below w.heap.size w W1 := by rw [hW1]; exact ((Below.refl _ _).alloc (Nat.le_refl _) _).alloc (by simp) _
  have hsW : W1.heap.size = w.heap.size + 2 := by rw [hW1]; simp
  have hbx : W1.cell? ⟨w.heap.size, 0, none⟩ = some (.pointer (some ⟨b, 0, none⟩)) := by rw [hW1]; go_simp
  have hvW : View W1 base b b2 L (L.octF f) := hv.below hok hbW
  have hxW : Ints W1 a xs := hxs.below hbW
  have HsW := Lib.hid hsW
  have HbW := Lib.hid hbW
  have HBx := Lib.hid hbx
  have HvW := Lib.hid hvW
  have HNA := Lib.hid hna
  clear hbW hsW hbx hvW hna hxs
  go_enter Try.func51, Try.ntmps51
  go_wp2
  clear hi1 hi2 hi3 hi4 hmm
  rw [← hW1]
  have HW1 := Lib.hid hW1
  clear hW1 hv3 hv
  go_loopw [23] (fun i wr => ∃ k : Nat, k ≤ xs.length ∧ i = .int .i64 k ∧ View wr base b b2 L (L.octF (putF f x y xs k)) ∧ Upd b2 W1 wr) (fun i _ => xs.length - (intOf i).toNat)
  case atStart => exact ⟨0, Nat.zero_le _, rfl, by rw [putF_zero]; exact HvW.out, Upd.refl _ _⟩
  case round =>
    obtain ⟨k, hk, rfl, hvr, hU⟩ := hrel
    have hs0 := HsW.out
    have hbxr : wr.cell? ⟨w.heap.size, 0, none⟩ = some (.pointer (some ⟨b, 0, none⟩)) := by rw [hU.cell (by show w.heap.size < _; omega) (by show w.heap.size ≠ _; omega)]; exact HBx.out
    have hszr : w.heap.size < wr.heap.size := by have := hU.size; omega
    clear hs0
    by_cases hlt : k < xs.length
    · obtain ⟨ab, off, v, rfl, hc, HX⟩ := (hxW.upd hU HNA.out).at hlt
      have hdom : L.dom x y k := ⟨⟨x0, xW⟩, ⟨y0, yH⟩, ⟨by omega, by omega⟩⟩
      obtain ⟨q0, q1, _⟩ := L.coords hok hdom (d := 0) (by omega) (by omega)
      obtain ⟨p0, _, _⟩ := L.coords hok hdom (d := 0) (by omega) (by omega)
      rw [Int.add_zero] at p0
      rw [Int.add_zero] at q0 q1
      have HR := Lib.hid hdom
      have HU := Lib.hid hU
      have HV := Lib.hid hvr
      clear hdom hU hvr
      go_wp2_with fail
      refine (vplace_any b L.W L.H L.C L.B L.pl L.P x y k wr HV.out.hd hok x0 xW y0 yH (by omega) (by omega)).mono ?_
      rintro e w1 ⟨rfl, hb1⟩
      have hv1 := HV.out.below hok hb1
      have hbx1 : w1.cell? ⟨w.heap.size, 0, none⟩ = some (.pointer (some ⟨b, 0, none⟩)) := (hb1.cell (p := ⟨w.heap.size, 0, none⟩) hszr).trans hbxr
      obtain ⟨vc, hsl1⟩ := hv1.sl
      have hcp := (hv1.bt (L.plc x y k).toNat (by omega)).1
      have hfp := (hv1.bt (L.plc x y k).toNat (by omega)).2
      have hset := fun v => View.set8 hv1 hok hn HR.out v
      have hwr : Calls Try.prog 75 #[.int .i64 (plcS L.W L.H L.C L.B L.pl L.P x y k), .int .i64 v, .pointer (some ⟨w.heap.size, 0, none⟩)] w1 _ := write8_any w.heap.size b b2 L.len.toNat vc (L.plc x y k) v w1 _ hbx1 hsl1 (by omega) (by omega) hcp hfp
      have HWR := Lib.hid hwr
      have HV1 := Lib.hid hv1
      have HS := Lib.hid hset
      have HB1 := Lib.hid hb1
      clear hv1 hset hb1 hwr
      go_wp2_with fail
      (with_reducible refine HWR.out.mono ?_)
      rintro e w2 ⟨rfl, hw2⟩
      have HW2 := Lib.hid hw2
      clear hw2
      go_wp2_with fail
      go_roundw
      case rel => exact ⟨k + 1, by omega, by go_num, by rw [HW2.out, ← putF_succ f x y xs k v HX.out]; exact HS.out v, by rw [HW2.out]; exact (HU.out.trans (Upd.of_below HB1.out)).trans (Upd.setCell _ _ _ _)⟩
      case measure => simp [intOf]; omega
    · have hkk : k = xs.length := by omega
      have HV := Lib.hid hvr
      have HU := Lib.hid hU
      have HK := Lib.hid hkk
      clear hkk hvr hU
      go_wp2
      go_end0
      exact ⟨rfl, by rw [← HK.out]; exact HV.out, (Upd.of_below HbW.out).trans HU.out⟩

set_option maxRecDepth 100000 in
set_option maxHeartbeats 1000000 in
theorem put16 (L : Lay) (hok : L.ok) (hn : L.n = 2) (hB : L.B = 16) (base b b2 : Nat) (f : Int → Int → Int → Int) (x y : Int) (xs : List Int) (a : Option Addr) (cap : Nat) (w : World)
    (hv : View w base b b2 L (L.octF f)) (x0 : 0 ≤ x) (xW : x < L.W) (y0 : 0 ≤ y) (yH : y < L.H) (hxs : Ints w a xs) (hlen : (xs.length : Int) ≤ L.C) (hna : ∀ c off, a = some ⟨c, off, none⟩ → c ≠ b2) :
    Calls Try.prog 51 #[.pointer (some ⟨b, 0, none⟩), .int .i64 x, .int .i64 y, .slice a xs.length cap] w (PutPost L base b b2 f x y xs w) := by
  have hlb := L.len_bd hok
  have hc2 := hok.c2
  have hl : b < w.heap.size := hv.lt
  have hl2 := hv.lt2 hok
  have hv3 := hv.hd.c3
  rw [hB] at hv3
  clear hB
  have hmm := @run_makeMap Try.prog
  obtain ⟨hi1, hi2, hi3, hi4⟩ := map2 (P := Try.prog) (q := .i64) Try.underlying108 Try.underlying3 (w.alloc (.cells #[.pointer (some ⟨b, 0, none⟩)] 80)) (w.heap.size + 1) (by simp) 8 16
    (.func (.func 75) #[] #[.pointer (some ⟨w.heap.size, 0, none⟩)]) (.func (.func 76) #[] #[.pointer (some ⟨w.heap.size, 0, none⟩)]) (by decide)
  obtain ⟨W1, hW1⟩ : ∃ W1, W1 = (w.alloc (.cells #[.pointer (some ⟨b, 0, none⟩)] 80)).alloc (.map #[{ key := .int .i64 8, val := .func (.func 75) #[] #[.pointer (some ⟨w.heap.size, 0, none⟩)], born := 0 }, { key := .int .i64 16, val := .func (.func 76) #[] #[.pointer (some ⟨w.heap.size, 0, none⟩)], born := 1 }] 2) := ⟨_, rfl⟩
  have hbW : Below w.heap.size w W1 := by rw [hW1]; exact ((Below.refl _ _).alloc (Nat.le_refl _) _).alloc (by simp) _
  have hsW : W1.heap.size = w.heap.size + 2 := by rw [hW1]; simp
  have hbx : W1.cell? ⟨w.heap.size, 0, none⟩ = some (.pointer (some ⟨b, 0, none⟩)) := by rw [hW1]; go_simp
  have hvW : View W1 base b b2 L (L.octF f) := hv.below hok hbW
  have hxW : Ints W1 a xs := hxs.below hbW
  have HsW := Lib.hid hsW
  have HbW := Lib.hid hbW
  have HBx := Lib.hid hbx
  have HvW := Lib.hid hvW
  have HNA := Lib.hid hna
  clear hbW hsW hbx hvW hna hxs
  go_enter Try.func51, Try.ntmps51
  go_wp2
  clear hi1 hi2 hi3 hi4 hmm
  rw [← hW1]
  have HW1 := Lib.hid hW1
  clear hW1 hv3 hv
  go_loopw [23] (fun i wr => ∃ k : Nat, k ≤ xs.length ∧ i = .int .i64 k ∧ View wr base b b2 L (L.octF (putF f x y xs k)) ∧ Upd b2 W1 wr) (fun i _ => xs.length - (intOf i).toNat)
  case atStart => exact ⟨0, Nat.zero_le _, rfl, by rw [putF_zero]; exact HvW.out, Upd.refl _ _⟩
  case round =>
    obtain ⟨k, hk, rfl, hvr, hU⟩ := hrel
    have hs0 := HsW.out
    have hbxr : wr.cell? ⟨w.heap.size, 0, none⟩ = some (.pointer (some ⟨b, 0, none⟩)) := by rw [hU.cell (by show w.heap.size < _; omega) (by show w.heap.size ≠ _; omega)]; exact HBx.out
    have hszr : w.heap.size < wr.heap.size := by have := hU.size; omega
    clear hs0
    by_cases hlt : k < xs.length
    · obtain ⟨ab, off, v, rfl, hc, HX⟩ := (hxW.upd hU HNA.out).at hlt
      have hdom : L.dom x y k := ⟨⟨x0, xW⟩, ⟨y0, yH⟩, ⟨by omega, by omega⟩⟩
      obtain ⟨q0, q1, _⟩ := L.coords hok hdom (d := 1) (by omega) (by omega)
      obtain ⟨p0, _, _⟩ := L.coords hok hdom (d := 0) (by omega) (by omega)
      rw [Int.add_zero] at p0
      have HR := Lib.hid hdom
      have HU := Lib.hid hU
      have HV := Lib.hid hvr
      clear hdom hU hvr
      go_wp2_with fail
      refine (vplace_any b L.W L.H L.C L.B L.pl L.P x y k wr HV.out.hd hok x0 xW y0 yH (by omega) (by omega)).mono ?_
      rintro e w1 ⟨rfl, hb1⟩
      have hv1 := HV.out.below hok hb1
      have hbx1 : w1.cell? ⟨w.heap.size, 0, none⟩ = some (.pointer (some ⟨b, 0, none⟩)) := (hb1.cell (p := ⟨w.heap.size, 0, none⟩) hszr).trans hbxr
      obtain ⟨vc, hsl1⟩ := hv1.sl
      have hcp := (hv1.bt (L.plc x y k).toNat (by omega)).1
      have hfp := (hv1.bt (L.plc x y k).toNat (by omega)).2
      have hcp2 := (hv1.bt (L.plc x y k + 1).toNat (by omega)).1
      have hfp2 := (hv1.bt (L.plc x y k + 1).toNat (by omega)).2
      have hset := fun v => View.set16 hv1 hok hn HR.out v
      have hwr : Calls Try.prog 76 #[.int .i64 (plcS L.W L.H L.C L.B L.pl L.P x y k), .int .i64 v, .pointer (some ⟨w.heap.size, 0, none⟩)] w1 _ := write16_any w.heap.size b b2 L.len.toNat vc (L.plc x y k) v w1 _ _ hbx1 hsl1 (by omega) (by omega) (by omega) hcp hfp hcp2 hfp2
      have HWR := Lib.hid hwr
      have HV1 := Lib.hid hv1
      have HS := Lib.hid hset
      have HB1 := Lib.hid hb1
      clear hv1 hset hb1 hwr
      go_wp2_with fail
      (with_reducible refine HWR.out.mono ?_)
      rintro e w2 ⟨rfl, hw2⟩
      have HW2 := Lib.hid hw2
      clear hw2
      go_wp2_with fail
      go_roundw
      case rel => exact ⟨k + 1, by omega, by go_num, by rw [HW2.out, ← putF_succ f x y xs k v HX.out]; exact HS.out v, by rw [HW2.out]; exact ((HU.out.trans (Upd.of_below HB1.out)).trans ((Upd.setCell _ _ _ _).trans (Upd.setCell _ _ _ _))).trans (Upd.drew _ _)⟩
      case measure => simp [intOf]; omega
    · have hkk : k = xs.length := by omega
      have HV := Lib.hid hvr
      have HU := Lib.hid hU
      have HK := Lib.hid hkk
      clear hkk hvr hU
      go_wp2
      go_end0
      exact ⟨rfl, by rw [← HK.out]; exact HV.out, (Upd.of_below HbW.out).trans HU.out⟩

end Go.Proofs.Ytphfbjeaklpddaa

/- Layer 42: put as one; pixel's closures. -/
namespace Go.Proofs.Ytphfbjeaklpddaa
open Go.RowKit

theorem put_any (L : Lay) (hok : L.ok) (base b b2 : Nat) (f : Int → Int → Int → Int) (x y : Int) (xs : List Int) (a : Option Addr) (cap : Nat) (w : World)
    (hv : View w base b b2 L (L.octF f)) (x0 : 0 ≤ x) (xW : x < L.W) (y0 : 0 ≤ y) (yH : y < L.H) (hxs : Ints w a xs) (hlen : (xs.length : Int) ≤ L.C) (hna : ∀ c off, a = some ⟨c, off, none⟩ → c ≠ b2) :
    Calls Try.prog 51 #[.pointer (some ⟨b, 0, none⟩), .int .i64 x, .int .i64 y, .slice a xs.length cap] w (PutPost L base b b2 f x y xs w) := by
  rcases L.n_cases hok with ⟨hn, hB⟩ | ⟨hn, hB⟩
  · exact put8 L hok hn hB base b b2 f x y xs a cap w hv x0 xW y0 yH hxs hlen hna
  · exact put16 L hok hn hB base b b2 f x y xs a cap w hv x0 xW y0 yH hxs hlen hna

set_option maxHeartbeats 400000 in
theorem read8_any (bx b b2 len cap : Nat) (p v : Int) (w : World)
    (hx : w.cell? ⟨bx, 0, none⟩ = some (.pointer (some ⟨b, 0, none⟩))) (hs : w.cell? ⟨b, 7, none⟩ = some (.slice (some ⟨b2, 0, none⟩) len cap))
    (p0 : 0 ≤ p) (p1 : p < len) (hc : w.cell? ⟨b2, p.toNat, none⟩ = some (.int .u8 v)) (v0 : 0 ≤ v) (v1 : v < 256) :
    Calls Try.prog 68 #[.int .i64 p, .pointer (some ⟨bx, 0, none⟩)] w fun e w' => e = .returned (.int .i64 v) ∧ w = w' := by
  go_enter Try.func68, Try.ntmps68
  go_wp2
  go_ret
  exact ⟨rfl, rfl⟩

theorem or_bytes (a b : Int) (a0 : 0 ≤ a) (a1 : a < 256) (b0 : 0 ≤ b) (b1 : b < 256) : bits BinOp.or IntKind.i64 (a * 256) b = a * 256 + b := by
  obtain ⟨A, rfl⟩ := Int.eq_ofNat_of_zero_le a0
  obtain ⟨B, rfl⟩ := Int.eq_ofNat_of_zero_le b0
  show IntKind.i64.wrap ((BitVec.ofInt 64 ((A : Int) * 256) ||| BitVec.ofInt 64 (B : Int)).toNat : Int) = _
  have e : ((A : Int) * 256) = ((A * 256 : Nat) : Int) := by omega
  have h := Nat.two_pow_add_eq_or_of_lt (i := 8) (b := B) (by omega) A
  rw [e, BitVec.toNat_or, BitVec.ofInt_natCast, BitVec.ofInt_natCast, BitVec.toNat_ofNat, BitVec.toNat_ofNat, Nat.mod_eq_of_lt (by omega), Nat.mod_eq_of_lt (by omega),
    show A * 256 = 2 ^ 8 * A by omega, ← h]
  rw [IntWalk.i64_in _ (by omega)]
  omega

set_option maxRecDepth 100000 in
set_option maxHeartbeats 400000 in
theorem read16_any (bx b b2 len cap : Nat) (p v u : Int) (w : World)
    (hx : w.cell? ⟨bx, 0, none⟩ = some (.pointer (some ⟨b, 0, none⟩))) (hs : w.cell? ⟨b, 7, none⟩ = some (.slice (some ⟨b2, 0, none⟩) len cap))
    (p0 : 0 ≤ p) (p1 : p + 1 < len) (hl : (len : Int) ≤ 133120) (hc : w.cell? ⟨b2, p.toNat, none⟩ = some (.int .u8 v)) (v0 : 0 ≤ v) (v1 : v < 256) (hc2 : w.cell? ⟨b2, (p + 1).toNat, none⟩ = some (.int .u8 u)) (u0 : 0 ≤ u) (u1 : u < 256) :
    Calls Try.prog 69 #[.int .i64 p, .pointer (some ⟨bx, 0, none⟩)] w fun e w' => e = .returned (.int .i64 (256 * v + u)) ∧ Below w.heap.size w w' := by
  have hl1 : bx < w.heap.size := World.block_lt_of_cell? _ _ hx
  have hl2 : b < w.heap.size := World.block_lt_of_cell? _ _ hs
  have hl3 : b2 < w.heap.size := World.block_lt_of_cell? _ _ hc
  have HO := Lib.hid (or_bytes v u v0 v1 u0 u1)
  go_enter Try.func69, Try.ntmps69
  go_wp2
  refine wp_region_grow (by kernel_rfl) (by kernel_rfl) ?_
  repeat (go_big_quiet_step (fail))
  refine wpQuiet_nil ?_
  intro _ hw'
  obtain ⟨nq, hw''⟩ := hw'
  subst hw''
  go_wp2
  go_ret
  exact ⟨by rw [show 256 * v + u = v * 256 + u by omega, ← HO.out]; rfl, grow_below _ _⟩

/-- what a view's closure for reading does with a place -/
theorem readC (L : Lay) (hok : L.ok) (base b b2 : Nat) (g : Int → Int) (hg : ∀ p, 0 ≤ g p ∧ g p < 256) (bx : Nat) (p : Int) (w : World) (hv : View w base b b2 L g) (hx : w.cell? ⟨bx, 0, none⟩ = some (.pointer (some ⟨b, 0, none⟩)))
    (p0 : 0 ≤ p) (p1 : p + L.n ≤ L.len) :
    (L.n = 1 → Calls Try.prog 68 #[.int .i64 p, .pointer (some ⟨bx, 0, none⟩)] w fun e w' => e = .returned (.int .i64 (g p)) ∧ Below w.heap.size w w') ∧
    (L.n = 2 → Calls Try.prog 69 #[.int .i64 p, .pointer (some ⟨bx, 0, none⟩)] w fun e w' => e = .returned (.int .i64 (256 * g p + g (p + 1))) ∧ Below w.heap.size w w') := by
  obtain ⟨cap, hsl⟩ := hv.sl
  have hlb := L.len_bd hok
  constructor
  · intro hn
    have h1 := (hv.bt p.toNat (by omega)).1
    rw [Int.toNat_of_nonneg p0] at h1
    have h2 : w.cell? ⟨b2, p.toNat, none⟩ = some (.int .u8 (g p)) := h1
    exact (read8_any bx b b2 L.len.toNat cap p (g p) w hx hsl p0 (by omega) h2 (hg p).1 (hg p).2).mono fun e w' ⟨h2, h3⟩ => ⟨h2, by rw [← h3]; exact Below.refl _ _⟩
  · intro hn
    have h1 := (hv.bt p.toNat (by omega)).1
    have h2 := (hv.bt (p + 1).toNat (by omega)).1
    rw [Int.toNat_of_nonneg p0] at h1
    rw [Int.toNat_of_nonneg (by omega)] at h2
    exact read16_any bx b b2 L.len.toNat cap p (g p) (g (p + 1)) w hx hsl p0 (by omega) (by omega) h1 (hg p).1 (hg p).2 h2 (hg _).1 (hg _).2

set_option maxRecDepth 100000 in
set_option maxHeartbeats 1000000 in
theorem pix3_1 (L : Lay) (hok : L.ok) (hn : L.n = 1) (hB : L.B = 8) (base b b2 : Nat) (g : Int → Int) (hg : ∀ p, 0 ≤ g p ∧ g p < 256) (br bx b4 b5 : Nat) (x y c : Int) (w : World) (hv : View w base b b2 L g)
    (hr : w.cell? ⟨br, 0, none⟩ = some (.func (.func 68) #[] #[.pointer (some ⟨bx, 0, none⟩)])) (hx : w.cell? ⟨bx, 0, none⟩ = some (.pointer (some ⟨b, 0, none⟩)))
    (h4 : w.cell? ⟨b4, 0, none⟩ = some (.int .i64 x)) (h5 : w.cell? ⟨b5, 0, none⟩ = some (.int .i64 y)) (x0 : 0 ≤ x) (xW : x < L.W) (y0 : 0 ≤ y) (yH : y < L.H) (c0 : 0 ≤ c) (cC : c < L.C) :
    Calls Try.prog 70 #[.int .i64 c, .pointer (some ⟨br, 0, none⟩), .pointer (some ⟨bx, 0, none⟩), .pointer (some ⟨b4, 0, none⟩), .pointer (some ⟨b5, 0, none⟩)] w fun e w' => e = .returned (.int .i64 (L.smp g x y c)) ∧ Below w.heap.size w w' := by
  have hl1 : br < w.heap.size := World.block_lt_of_cell? _ _ hr
  have hl2 : bx < w.heap.size := World.block_lt_of_cell? _ _ hx
  have hl3 : b4 < w.heap.size := World.block_lt_of_cell? _ _ h4
  have hl5 : b5 < w.heap.size := World.block_lt_of_cell? _ _ h5
  have hdom : L.dom x y c := ⟨⟨x0, xW⟩, ⟨y0, yH⟩, ⟨c0, cC⟩⟩
  obtain ⟨p0, _, _⟩ := L.coords hok hdom (d := 0) (by omega) (by omega)
  obtain ⟨_, p1, _⟩ := L.coords hok hdom (d := 0) (by omega) (by omega)
  rw [Int.add_zero] at p0
  have hrd : ∀ W, Below w.heap.size w W → Calls Try.prog 68 #[.int .i64 (plcS L.W L.H L.C L.B L.pl L.P x y c), .pointer (some ⟨bx, 0, none⟩)] W fun e w' => e = .returned (.int .i64 (L.smp g x y c)) ∧ Below W.heap.size W w' := fun W hW => by
    have h1 := (readC L hok base b b2 g hg bx (L.plc x y c) W (hv.below hok hW) ((hW.cell (p := ⟨bx, 0, none⟩) hl2).trans hx) p0 (by omega)).1 hn
    have h2 : L.smp g x y c = g (L.plc x y c) := by unfold Lay.smp; rw [if_pos hB]
    rw [h2]; exact h1
  have HRD := Lib.hid hrd
  have HV := Lib.hid hv
  have HD := Lib.hid hdom
  clear hrd hv hB hdom
  go_enter Try.func70, Try.ntmps70
  go_wp2
  refine wp_region_grow (by kernel_rfl) (by kernel_rfl) ?_
  repeat (go_big_quiet_step (first
    | (go_at_call 71; exact calls_grow (vplace_any b L.W L.H L.C L.B L.pl L.P x y c _ ((HV.out.below hok (grow_below _ _)).hd) hok x0 xW y0 yH c0 cC))
    | (go_at_call 68; exact calls_grow (HRD.out _ (grow_below _ _)))))
  refine wpQuiet_nil ?_
  intro _ hw'
  obtain ⟨nq, hw''⟩ := hw'
  subst hw''
  go_wp2
  go_ret
  exact ⟨rfl, grow_below _ _⟩

set_option maxRecDepth 100000 in
set_option maxHeartbeats 1000000 in
theorem pix3_2 (L : Lay) (hok : L.ok) (hn : L.n = 2) (hB : L.B = 16) (base b b2 : Nat) (g : Int → Int) (hg : ∀ p, 0 ≤ g p ∧ g p < 256) (br bx b4 b5 : Nat) (x y c : Int) (w : World) (hv : View w base b b2 L g)
    (hr : w.cell? ⟨br, 0, none⟩ = some (.func (.func 69) #[] #[.pointer (some ⟨bx, 0, none⟩)])) (hx : w.cell? ⟨bx, 0, none⟩ = some (.pointer (some ⟨b, 0, none⟩)))
    (h4 : w.cell? ⟨b4, 0, none⟩ = some (.int .i64 x)) (h5 : w.cell? ⟨b5, 0, none⟩ = some (.int .i64 y)) (x0 : 0 ≤ x) (xW : x < L.W) (y0 : 0 ≤ y) (yH : y < L.H) (c0 : 0 ≤ c) (cC : c < L.C) :
    Calls Try.prog 70 #[.int .i64 c, .pointer (some ⟨br, 0, none⟩), .pointer (some ⟨bx, 0, none⟩), .pointer (some ⟨b4, 0, none⟩), .pointer (some ⟨b5, 0, none⟩)] w fun e w' => e = .returned (.int .i64 (L.smp g x y c)) ∧ Below w.heap.size w w' := by
  have hl1 : br < w.heap.size := World.block_lt_of_cell? _ _ hr
  have hl2 : bx < w.heap.size := World.block_lt_of_cell? _ _ hx
  have hl3 : b4 < w.heap.size := World.block_lt_of_cell? _ _ h4
  have hl5 : b5 < w.heap.size := World.block_lt_of_cell? _ _ h5
  have hdom : L.dom x y c := ⟨⟨x0, xW⟩, ⟨y0, yH⟩, ⟨c0, cC⟩⟩
  obtain ⟨p0, _, _⟩ := L.coords hok hdom (d := 0) (by omega) (by omega)
  obtain ⟨_, p1, _⟩ := L.coords hok hdom (d := 1) (by omega) (by omega)
  rw [Int.add_zero] at p0
  have hrd : ∀ W, Below w.heap.size w W → Calls Try.prog 69 #[.int .i64 (plcS L.W L.H L.C L.B L.pl L.P x y c), .pointer (some ⟨bx, 0, none⟩)] W fun e w' => e = .returned (.int .i64 (L.smp g x y c)) ∧ Below W.heap.size W w' := fun W hW => by
    have h1 := (readC L hok base b b2 g hg bx (L.plc x y c) W (hv.below hok hW) ((hW.cell (p := ⟨bx, 0, none⟩) hl2).trans hx) p0 (by omega)).2 hn
    have h2 : L.smp g x y c = 256 * g (L.plc x y c) + g (L.plc x y c + 1) := by unfold Lay.smp; rw [if_neg (by omega)]
    rw [h2]; exact h1
  have HRD := Lib.hid hrd
  have HV := Lib.hid hv
  have HD := Lib.hid hdom
  clear hrd hv hB hdom
  go_enter Try.func70, Try.ntmps70
  go_wp2
  refine wp_region_grow (by kernel_rfl) (by kernel_rfl) ?_
  repeat (go_big_quiet_step (first
    | (go_at_call 71; exact calls_grow (vplace_any b L.W L.H L.C L.B L.pl L.P x y c _ ((HV.out.below hok (grow_below _ _)).hd) hok x0 xW y0 yH c0 cC))
    | (go_at_call 69; exact calls_grow (HRD.out _ (grow_below _ _)))))
  refine wpQuiet_nil ?_
  intro _ hw'
  obtain ⟨nq, hw''⟩ := hw'
  subst hw''
  go_wp2
  go_ret
  exact ⟨rfl, grow_below _ _⟩

end Go.Proofs.Ytphfbjeaklpddaa

/- Layer 42: made at its two closures; pixel. -/
namespace Go.Proofs.Ytphfbjeaklpddaa
open Go.RowKit

/-- a new list of the values h 0 .. h (n - 1) -/
def MadePost (h : Int → Int) (n : Nat) (w : World) : Ending → World → Prop := fun e w' =>
  ∃ b cap : Nat, e = .returned (.slice (some ⟨b, 0, none⟩) n cap) ∧ Ints w' (some ⟨b, 0, none⟩) ((List.range n).map fun i => h (i : Nat)) ∧ w.heap.size ≤ b ∧ b < w'.heap.size ∧ Below w.heap.size w w'

/-- what has been filled -/
structure Filled (h : Int → Int) (n k b : Nat) (w : World) : Prop where
  done : ∀ j : Nat, j < k → w.cell? ⟨b, j, none⟩ = some (.int .i64 (h j))
  there : ∀ j : Nat, j < n → ∃ v, w.cell? ⟨b, j, none⟩ = some v
  free : ∀ j : Nat, w.frozen? ⟨b, j, none⟩ = false

theorem Filled.below {h : Int → Int} {n k b : Nat} {w w' : World} (hF : Filled h n k b w) (hb : b < w.heap.size) (hB : Below w.heap.size w w') : Filled h n k b w' :=
  ⟨fun j hj => (hB.cell (p := ⟨b, j, none⟩) hb).trans (hF.done j hj), fun j hj => by rw [hB.cell (p := ⟨b, j, none⟩) hb]; exact hF.there j hj, fun j => (hB.frozen (p := ⟨b, j, none⟩) hb).trans (hF.free j)⟩

theorem Filled.step {h : Int → Int} {n k b : Nat} {w : World} (hF : Filled h n k b w) (hk : k < n) : Filled h n (k + 1) b (w.setCell ⟨b, k, none⟩ (.int .i64 (h k))) := by
  obtain ⟨v, hv⟩ := hF.there k hk
  have same := World.cell?_setCell_same w ⟨b, k, none⟩ (.int .i64 (h k)) hv
  have other : ∀ j, j ≠ k → (w.setCell ⟨b, k, none⟩ (.int .i64 (h k))).cell? ⟨b, j, none⟩ = w.cell? ⟨b, j, none⟩ := fun j hj =>
    World.cell?_setCell_other w ⟨b, k, none⟩ ⟨b, j, none⟩ _ (by intro e; have := congrArg Addr.off e; dsimp only at this; omega)
  refine ⟨fun j hj => ?_, fun j hj => ?_, fun j => by rw [World.frozen?_setCell]; exact hF.free j⟩
  · by_cases e : j = k
    · subst e; exact same
    · rw [other j e]; exact hF.done j (by omega)
  · by_cases e : j = k
    · subst e; exact ⟨_, same⟩
    · rw [other j e]; exact hF.there j hj

theorem Filled.start (h : Int → Int) (n : Nat) (w : World) : Filled h n 0 w.heap.size (w.alloc (.cells (madeCells #[.int .i64 0] n) 3)) :=
  ⟨fun j hj => by omega, fun j hj => ⟨.int .i64 0, by rw [World.cell?_alloc_new]; simp [madeCells, hj, Nat.mod_one]⟩, fun j => World.frozen?_alloc_new _ _ _ _⟩

theorem Filled.ints {h : Int → Int} {n b : Nat} {w : World} (hF : Filled h n n b w) : Ints w (some ⟨b, 0, none⟩) ((List.range n).map fun i => h (i : Nat)) :=
  fun _ => ⟨b, 0, rfl, fun i hi => by
    have hi' : i < n := by simpa using hi
    rw [Nat.zero_add, hF.done i hi']
    simp [hi']⟩

theorem info_int : (Try.prog.info? 3).map (fun i => (i.zero, i.size, i.bytes)) = some (some (.int .i64 0), 1, 8) := by kernel_rfl

set_option maxRecDepth 100000 in
set_option maxHeartbeats 1000000 in
theorem made_70 (n : Nat) (hn : n ≤ 1000) (q1 q2 q3 q4 : Addr) (h : Int → Int) (w : World)
    (hf : ∀ (c : Nat) W, c < n → Below w.heap.size w W → Calls Try.prog 70 #[.int .i64 c, .pointer (some q1), .pointer (some q2), .pointer (some q3), .pointer (some q4)] W fun e w' => e = .returned (.int .i64 (h c)) ∧ Below W.heap.size W w') :
    Calls Try.prog 57 #[.int .i64 n, .func (.func 70) #[] #[.pointer (some q1), .pointer (some q2), .pointer (some q3), .pointer (some q4)]] w (MadePost h n w) := by
  have hmk := run_make_row' (P := Try.prog) 44 3 (.int .i64 0) 8 Try.underlying44 info_int rfl .i64 .i64 n (by omega) (by omega)
  have hstart := Filled.start h n w
  have hB0 : Below w.heap.size w (w.alloc (.cells (madeCells #[.int .i64 0] n) 3)) := (Below.refl _ _).alloc (Nat.le_refl _) _
  have HF := Lib.hid hf
  have HS := Lib.hid hstart
  have HB := Lib.hid hB0
  clear hf hstart hB0
  go_enter Try.func57, Try.ntmps57
  go_wp2
  go_loopw [6, 11] (fun _ i wr => ∃ k : Nat, k ≤ n ∧ i = .int .i64 k ∧ Filled h n k w.heap.size wr ∧ Below w.heap.size w wr ∧ w.heap.size < wr.heap.size) (fun _ i _ => n - (intOf i).toNat)
  case atStart => exact ⟨0, Nat.zero_le _, rfl, HS.out, HB.out, by simp⟩
  case round =>
    obtain ⟨k, hk, rfl, hFl, hB, hsz⟩ := hrel
    have HFl := Lib.hid hFl
    have HB := Lib.hid hB
    clear hFl hB
    by_cases hlt : k < n
    · have hcall := HF.out k wr hlt HB.out
      have HC := Lib.hid hcall
      clear hcall
      go_wp2_with fail
      (with_reducible refine HC.out.mono ?_)
      rintro e w1 ⟨rfl, hb1⟩
      have hF1 := HFl.out.below hsz hb1
      obtain ⟨v, hv⟩ := hF1.there k hlt
      have hfr := hF1.free k
      have hstep := hF1.step hlt
      have hsz1 : w.heap.size < w1.heap.size := Nat.lt_of_lt_of_le hsz hb1.size
      have hB1 := (HB.out.trans (hb1.mono (by omega))).setCell (p := ⟨w.heap.size, k, none⟩) (Nat.le_refl _) (.int .i64 (h k))
      have HST := Lib.hid hstep
      have HB1 := Lib.hid hB1
      clear hF1 hstep hB1 hb1
      go_wp2_with fail
      go_roundw
      case rel => exact ⟨k + 1, by omega, by go_num, HST.out, HB1.out, by simpa using hsz1⟩
      case measure => simp [intOf]; omega
    · have hkk : k = n := by omega
      have hi : Ints wr (some ⟨w.heap.size, 0, none⟩) ((List.range n).map fun i => h (i : Nat)) := by have := HFl.out; rw [hkk] at this; exact this.ints
      have HI := Lib.hid hi
      clear hi hkk
      go_wp2
      go_ret
      exact ⟨w.heap.size, n, rfl, HI.out, Nat.le_refl _, hsz, HB.out⟩

set_option maxRecDepth 100000 in
set_option maxHeartbeats 1000000 in
theorem made_58 (n : Nat) (hn : n ≤ 1000) (q1 q2 : Addr) (h : Int → Int) (w : World)
    (hf : ∀ (c : Nat) W, c < n → Below w.heap.size w W → Calls Try.prog 58 #[.int .i64 c, .pointer (some q1), .pointer (some q2)] W fun e w' => e = .returned (.int .i64 (h c)) ∧ Below W.heap.size W w') :
    Calls Try.prog 57 #[.int .i64 n, .func (.func 58) #[] #[.pointer (some q1), .pointer (some q2)]] w (MadePost h n w) := by
  have hmk := run_make_row' (P := Try.prog) 44 3 (.int .i64 0) 8 Try.underlying44 info_int rfl .i64 .i64 n (by omega) (by omega)
  have hstart := Filled.start h n w
  have hB0 : Below w.heap.size w (w.alloc (.cells (madeCells #[.int .i64 0] n) 3)) := (Below.refl _ _).alloc (Nat.le_refl _) _
  have HF := Lib.hid hf
  have HS := Lib.hid hstart
  have HB := Lib.hid hB0
  clear hf hstart hB0
  go_enter Try.func57, Try.ntmps57
  go_wp2
  go_loopw [6, 11] (fun _ i wr => ∃ k : Nat, k ≤ n ∧ i = .int .i64 k ∧ Filled h n k w.heap.size wr ∧ Below w.heap.size w wr ∧ w.heap.size < wr.heap.size) (fun _ i _ => n - (intOf i).toNat)
  case atStart => exact ⟨0, Nat.zero_le _, rfl, HS.out, HB.out, by simp⟩
  case round =>
    obtain ⟨k, hk, rfl, hFl, hB, hsz⟩ := hrel
    have HFl := Lib.hid hFl
    have HB := Lib.hid hB
    clear hFl hB
    by_cases hlt : k < n
    · have hcall := HF.out k wr hlt HB.out
      have HC := Lib.hid hcall
      clear hcall
      go_wp2_with fail
      (with_reducible refine HC.out.mono ?_)
      rintro e w1 ⟨rfl, hb1⟩
      have hF1 := HFl.out.below hsz hb1
      obtain ⟨v, hv⟩ := hF1.there k hlt
      have hfr := hF1.free k
      have hstep := hF1.step hlt
      have hsz1 : w.heap.size < w1.heap.size := Nat.lt_of_lt_of_le hsz hb1.size
      have hB1 := (HB.out.trans (hb1.mono (by omega))).setCell (p := ⟨w.heap.size, k, none⟩) (Nat.le_refl _) (.int .i64 (h k))
      have HST := Lib.hid hstep
      have HB1 := Lib.hid hB1
      clear hF1 hstep hB1 hb1
      go_wp2_with fail
      go_roundw
      case rel => exact ⟨k + 1, by omega, by go_num, HST.out, HB1.out, by simpa using hsz1⟩
      case measure => simp [intOf]; omega
    · have hkk : k = n := by omega
      have hi : Ints wr (some ⟨w.heap.size, 0, none⟩) ((List.range n).map fun i => h (i : Nat)) := by have := HFl.out; rw [hkk] at this; exact this.ints
      have HI := Lib.hid hi
      clear hi hkk
      go_wp2
      go_ret
      exact ⟨w.heap.size, n, rfl, HI.out, Nat.le_refl _, hsz, HB.out⟩

end Go.Proofs.Ytphfbjeaklpddaa

/- Layer 42: pixel. -/
namespace Go.Proofs.Ytphfbjeaklpddaa
open Go.RowKit

theorem MadePost.mono {h : Int → Int} {n : Nat} {w W : World} (hW : Below w.heap.size w W) {e : Ending} {w' : World} (hp : MadePost h n W e w') : MadePost h n w e w' := by
  obtain ⟨b, cap, he, hi, h1, h2, h3⟩ := hp
  exact ⟨b, cap, he, hi, Nat.le_trans hW.size h1, h2, hW.trans (h3.mono hW.size)⟩

set_option maxRecDepth 100000 in
set_option maxHeartbeats 1000000 in
theorem pixel_1 (L : Lay) (hok : L.ok) (hn : L.n = 1) (hB : L.B = 8) (base b b2 : Nat) (g : Int → Int) (hg : ∀ p, 0 ≤ g p ∧ g p < 256) (x y : Int) (w : World) (hv : View w base b b2 L g)
    (x0 : 0 ≤ x) (xW : x < L.W) (y0 : 0 ≤ y) (yH : y < L.H) :
    Calls Try.prog 47 #[.pointer (some ⟨b, 0, none⟩), .int .i64 x, .int .i64 y] w (MadePost (fun c => L.smp g x y c) L.C.toNat w) := by
  have hl : b < w.heap.size := hv.lt
  have c1 := hok.c1
  have c2 := hok.c2
  have hv3 := hv.hd.c3
  have hv2 := hv.hd.c2
  obtain ⟨cn, hcn⟩ := Int.eq_ofNat_of_zero_le (a := L.C) (by omega)
  rw [hB] at hv3
  rw [hcn] at hv2
  rw [show L.C.toNat = cn by omega]
  have hmm := @run_makeMap Try.prog
  obtain ⟨W3, hW3⟩ : ∃ W3, W3 = ((w.alloc (.cells #[.pointer (some ⟨b, 0, none⟩)] 80)).alloc (.cells #[.int .i64 x] 3)).alloc (.cells #[.int .i64 y] 3) := ⟨_, rfl⟩
  have hs3 : W3.heap.size = w.heap.size + 1 + 1 + 1 := by rw [hW3]; simp
  obtain ⟨hi1, hi2, hi3, hi4⟩ := map2 (P := Try.prog) (q := .i64) Try.underlying104 Try.underlying3 W3 (w.heap.size + 1 + 1 + 1) hs3.symm 8 16
    (.func (.func 68) #[] #[.pointer (some ⟨w.heap.size, 0, none⟩)]) (.func (.func 69) #[] #[.pointer (some ⟨w.heap.size, 0, none⟩)]) (by decide)
  rw [hW3] at hi1 hi2 hi3 hi4
  obtain ⟨W5, hW5⟩ : ∃ W5, W5 = ((((w.alloc (.cells #[.pointer (some ⟨b, 0, none⟩)] 80)).alloc (.cells #[.int .i64 x] 3)).alloc (.cells #[.int .i64 y] 3)).alloc (.map #[{ key := .int .i64 8, val := .func (.func 68) #[] #[.pointer (some ⟨w.heap.size, 0, none⟩)], born := 0 }, { key := .int .i64 16, val := .func (.func 69) #[] #[.pointer (some ⟨w.heap.size, 0, none⟩)], born := 1 }] 2)).alloc (.cells #[.func (.func 68) #[] #[.pointer (some ⟨w.heap.size, 0, none⟩)]] 96) := ⟨_, rfl⟩
  have hB5 : Below w.heap.size w W5 := by
    rw [hW5]
    repeat (first | exact Below.refl _ _ | (refine Below.alloc ?_ ?_ _))
    all_goals ((try simp only [World.size_alloc]); omega)
  have hv5 : View W5 base b b2 L g := hv.below hok hB5
  have k0 : W5.cell? ⟨w.heap.size, 0, none⟩ = some (.pointer (some ⟨b, 0, none⟩)) := by rw [hW5]; go_simp
  have k1 : W5.cell? ⟨w.heap.size + 1, 0, none⟩ = some (.int .i64 x) := by rw [hW5]; go_simp
  have k2 : W5.cell? ⟨w.heap.size + 1 + 1, 0, none⟩ = some (.int .i64 y) := by rw [hW5]; go_simp
  have k4 : W5.cell? ⟨w.heap.size + 1 + 1 + 1 + 1, 0, none⟩ = some (.func (.func 68) #[] #[.pointer (some ⟨w.heap.size, 0, none⟩)]) := by rw [hW5]; go_simp
  have hmade := made_70 cn (by omega) ⟨w.heap.size + 1 + 1 + 1 + 1, 0, none⟩ ⟨w.heap.size, 0, none⟩ ⟨w.heap.size + 1, 0, none⟩ ⟨w.heap.size + 1 + 1, 0, none⟩ (fun c => L.smp g x y c) W5
    (fun c W hc hW => pix3_1 L hok hn hB base b b2 g hg _ _ _ _ x y c W (hv5.below hok hW) ((hW.cell (p := ⟨w.heap.size + 1 + 1 + 1 + 1, 0, none⟩) (World.block_lt_of_cell? _ _ k4)).trans k4) ((hW.cell (p := ⟨w.heap.size, 0, none⟩) (World.block_lt_of_cell? _ _ k0)).trans k0)
      ((hW.cell (p := ⟨w.heap.size + 1, 0, none⟩) (World.block_lt_of_cell? _ _ k1)).trans k1) ((hW.cell (p := ⟨w.heap.size + 1 + 1, 0, none⟩) (World.block_lt_of_cell? _ _ k2)).trans k2) x0 xW y0 yH (by omega) (by omega))
  have HM := Lib.hid hmade
  have HB5 := Lib.hid hB5
  have HW5 := Lib.hid hW5
  clear hmade hB5 hv5 k0 k1 k2 k4 hv hB hcn hn hW3 hs3
  rw [hW5] at HM
  clear hW5
  have l1 : b < w.heap.size + 1 := by omega
  have l2 : b < w.heap.size + 1 + 1 := by omega
  have l3 : b < w.heap.size + 1 + 1 + 1 := by omega
  have l4 : b < w.heap.size + 1 + 1 + 1 + 1 := by omega
  go_enter Try.func47, Try.ntmps47
  go_wp2_with fail
  (with_reducible refine HM.out.mono ?_)
  intro e w' hp
  have hp' := MadePost.mono (HW5.out ▸ HB5.out) hp
  obtain ⟨b', cap', rfl, r1, r2, r3, r4⟩ := hp'
  have R1 := Lib.hid r1
  have R4 := Lib.hid r4
  clear r1 r4 hp
  go_wp2_with fail
  go_ret
  exact ⟨b', cap', rfl, R1.out, r2, r3, R4.out⟩

set_option maxRecDepth 100000 in
set_option maxHeartbeats 1000000 in
theorem pixel_2 (L : Lay) (hok : L.ok) (hn : L.n = 2) (hB : L.B = 16) (base b b2 : Nat) (g : Int → Int) (hg : ∀ p, 0 ≤ g p ∧ g p < 256) (x y : Int) (w : World) (hv : View w base b b2 L g)
    (x0 : 0 ≤ x) (xW : x < L.W) (y0 : 0 ≤ y) (yH : y < L.H) :
    Calls Try.prog 47 #[.pointer (some ⟨b, 0, none⟩), .int .i64 x, .int .i64 y] w (MadePost (fun c => L.smp g x y c) L.C.toNat w) := by
  have hl : b < w.heap.size := hv.lt
  have c1 := hok.c1
  have c2 := hok.c2
  have hv3 := hv.hd.c3
  have hv2 := hv.hd.c2
  obtain ⟨cn, hcn⟩ := Int.eq_ofNat_of_zero_le (a := L.C) (by omega)
  rw [hB] at hv3
  rw [hcn] at hv2
  rw [show L.C.toNat = cn by omega]
  have hmm := @run_makeMap Try.prog
  obtain ⟨W3, hW3⟩ : ∃ W3, W3 = ((w.alloc (.cells #[.pointer (some ⟨b, 0, none⟩)] 80)).alloc (.cells #[.int .i64 x] 3)).alloc (.cells #[.int .i64 y] 3) := ⟨_, rfl⟩
  have hs3 : W3.heap.size = w.heap.size + 1 + 1 + 1 := by rw [hW3]; simp
  obtain ⟨hi1, hi2, hi3, hi4⟩ := map2 (P := Try.prog) (q := .i64) Try.underlying104 Try.underlying3 W3 (w.heap.size + 1 + 1 + 1) hs3.symm 8 16
    (.func (.func 68) #[] #[.pointer (some ⟨w.heap.size, 0, none⟩)]) (.func (.func 69) #[] #[.pointer (some ⟨w.heap.size, 0, none⟩)]) (by decide)
  rw [hW3] at hi1 hi2 hi3 hi4
  obtain ⟨W5, hW5⟩ : ∃ W5, W5 = ((((w.alloc (.cells #[.pointer (some ⟨b, 0, none⟩)] 80)).alloc (.cells #[.int .i64 x] 3)).alloc (.cells #[.int .i64 y] 3)).alloc (.map #[{ key := .int .i64 8, val := .func (.func 68) #[] #[.pointer (some ⟨w.heap.size, 0, none⟩)], born := 0 }, { key := .int .i64 16, val := .func (.func 69) #[] #[.pointer (some ⟨w.heap.size, 0, none⟩)], born := 1 }] 2)).alloc (.cells #[.func (.func 69) #[] #[.pointer (some ⟨w.heap.size, 0, none⟩)]] 96) := ⟨_, rfl⟩
  have hB5 : Below w.heap.size w W5 := by
    rw [hW5]
    repeat (first | exact Below.refl _ _ | (refine Below.alloc ?_ ?_ _))
    all_goals ((try simp only [World.size_alloc]); omega)
  have hv5 : View W5 base b b2 L g := hv.below hok hB5
  have k0 : W5.cell? ⟨w.heap.size, 0, none⟩ = some (.pointer (some ⟨b, 0, none⟩)) := by rw [hW5]; go_simp
  have k1 : W5.cell? ⟨w.heap.size + 1, 0, none⟩ = some (.int .i64 x) := by rw [hW5]; go_simp
  have k2 : W5.cell? ⟨w.heap.size + 1 + 1, 0, none⟩ = some (.int .i64 y) := by rw [hW5]; go_simp
  have k4 : W5.cell? ⟨w.heap.size + 1 + 1 + 1 + 1, 0, none⟩ = some (.func (.func 69) #[] #[.pointer (some ⟨w.heap.size, 0, none⟩)]) := by rw [hW5]; go_simp
  have hmade := made_70 cn (by omega) ⟨w.heap.size + 1 + 1 + 1 + 1, 0, none⟩ ⟨w.heap.size, 0, none⟩ ⟨w.heap.size + 1, 0, none⟩ ⟨w.heap.size + 1 + 1, 0, none⟩ (fun c => L.smp g x y c) W5
    (fun c W hc hW => pix3_2 L hok hn hB base b b2 g hg _ _ _ _ x y c W (hv5.below hok hW) ((hW.cell (p := ⟨w.heap.size + 1 + 1 + 1 + 1, 0, none⟩) (World.block_lt_of_cell? _ _ k4)).trans k4) ((hW.cell (p := ⟨w.heap.size, 0, none⟩) (World.block_lt_of_cell? _ _ k0)).trans k0)
      ((hW.cell (p := ⟨w.heap.size + 1, 0, none⟩) (World.block_lt_of_cell? _ _ k1)).trans k1) ((hW.cell (p := ⟨w.heap.size + 1 + 1, 0, none⟩) (World.block_lt_of_cell? _ _ k2)).trans k2) x0 xW y0 yH (by omega) (by omega))
  have HM := Lib.hid hmade
  have HB5 := Lib.hid hB5
  have HW5 := Lib.hid hW5
  clear hmade hB5 hv5 k0 k1 k2 k4 hv hB hcn hn hW3 hs3
  rw [hW5] at HM
  clear hW5
  have l1 : b < w.heap.size + 1 := by omega
  have l2 : b < w.heap.size + 1 + 1 := by omega
  have l3 : b < w.heap.size + 1 + 1 + 1 := by omega
  have l4 : b < w.heap.size + 1 + 1 + 1 + 1 := by omega
  go_enter Try.func47, Try.ntmps47
  go_wp2_with fail
  (with_reducible refine HM.out.mono ?_)
  intro e w' hp
  have hp' := MadePost.mono (HW5.out ▸ HB5.out) hp
  obtain ⟨b', cap', rfl, r1, r2, r3, r4⟩ := hp'
  have R1 := Lib.hid r1
  have R4 := Lib.hid r4
  clear r1 r4 hp
  go_wp2_with fail
  go_ret
  exact ⟨b', cap', rfl, R1.out, r2, r3, R4.out⟩

theorem pixel_any (L : Lay) (hok : L.ok) (base b b2 : Nat) (g : Int → Int) (hg : ∀ p, 0 ≤ g p ∧ g p < 256) (x y : Int) (w : World) (hv : View w base b b2 L g)
    (x0 : 0 ≤ x) (xW : x < L.W) (y0 : 0 ≤ y) (yH : y < L.H) :
    Calls Try.prog 47 #[.pointer (some ⟨b, 0, none⟩), .int .i64 x, .int .i64 y] w (MadePost (fun c => L.smp g x y c) L.C.toNat w) := by
  rcases L.n_cases hok with ⟨hn, hB⟩ | ⟨hn, hB⟩
  · exact pixel_1 L hok hn hB base b b2 g hg x y w hv x0 xW y0 yH
  · exact pixel_2 L hok hn hB base b b2 g hg x y w hv x0 xW y0 yH

end Go.Proofs.Ytphfbjeaklpddaa

/- Layer 42: blank, closed. -/
namespace Go.Proofs.Ytphfbjeaklpddaa
open Go.RowKit

/-- the string of n octets -/
def octS (n : Nat) (g : Int → Int) : ByteArray := strOfNums ((List.range n).map fun p => g (p : Nat))

theorem info_u8 : (Try.prog.info? 5).map (fun i => (i.zero, i.size, i.bytes)) = some (some (.int .u8 0), 1, 1) := by kernel_rfl

set_option maxHeartbeats 1000000 in
theorem blank_bad (L : Lay) (O : ByteArray) (w : World) (h : shpB L.W L.H L.C L.B L.P = false) :
    Calls Try.prog 41 #[L.img O] w fun e w' => e = .returned (.tuple #[.pointer none, .int .i64 2]) ∧ Below w.heap.size w w' := by
  obtain ⟨W, H, C, B, pl, P⟩ := L
  unfold Lay.img
  dsimp only at h ⊢
  go_enter Try.func41, Try.ntmps41
  go_wp2_with (go_at_call 63; refine (shaped_any _ _ _ _ _ _ _ _).mono ?_; rintro e w1 ⟨rfl, hb1⟩)
  go_ret2
  refine ⟨rfl, (Below.trans ?_ (hb1.mono ?_))⟩
  · exact (Below.refl _ _).alloc (Nat.le_refl _) _
  · simp

/-- what blank does to right numbers -/
def Blanked (L : Lay) (w : World) : Ending → World → Prop := fun e w' =>
  ∃ b b2 : Nat, e = .returned (.tuple #[.pointer (some ⟨b, 0, none⟩), .int .i64 0]) ∧ View w' w.heap.size b b2 L (fun _ => 0) ∧ Below w.heap.size w w'

set_option maxHeartbeats 2000000 in
theorem blank_good (L : Lay) (O : ByteArray) (w : World) (hok : L.ok) :
    Calls Try.prog 41 #[L.img O] w (Blanked L w) := by
  have h := (shpB_iff _ _ _ _ _).2 hok
  have hr := L.rows_bd hok
  have hst := L.row_str hok
  have hmk := run_make_row' (P := Try.prog) 70 5 (.int .u8 0) 1 Try.underlying70 info_u8 rfl .i64 .i64 L.len.toNat (by have := L.len_bd hok; omega) (by have := L.len_bd hok; omega)
  rw [show ((L.len.toNat : Nat) : Int) = rowsS L.H L.C L.pl * strS L.W L.C L.B L.pl L.P by have := L.len_bd hok; unfold Lay.len Lay.rows Lay.str at *; omega] at hmk
  obtain ⟨N, hN⟩ : ∃ N, N = L.len.toNat := ⟨_, rfl⟩
  rw [← hN] at hmk
  have HN := Lib.hid hN
  clear hN
  obtain ⟨W, H, C, B, pl, P⟩ := L
  unfold Lay.img
  unfold Lay.rows Lay.str at *
  unfold Lay.row at *
  unfold Lay.ok at *
  dsimp only at h hok hr hst hmk ⊢
  obtain ⟨r1, r2⟩ := hr
  obtain ⟨s0, s1, s2⟩ := hst
  obtain ⟨m1, m2⟩ := mul_bd (a := rowsS H C pl) (b := strS W C B pl P) (A := 256) (B := 520) (by omega) r2 (by omega) s2
  go_enter Try.func41, Try.ntmps41
  go_wp2_with (first
    | (go_at_call 63; refine (shaped_any _ _ _ _ _ _ _ _).mono ?_; rintro e w1 ⟨rfl, hb1⟩; obtain ⟨hc1, hf1, hz1⟩ := after hb1; simp only [World.size_alloc] at hz1; have hx1 : w.heap.size < w1.heap.size := (by omega))
    | (go_at_call 64; refine (vrows_any _ W H C B pl P _ ⟨by go_simp, by go_simp, by go_simp, by go_simp, by go_simp, by go_simp⟩ hok).mono ?_; rintro e w2 ⟨rfl, hb2⟩; obtain ⟨hc2, hf2, hz2⟩ := after hb2; simp only [World.size_alloc] at hz2; have hx2 : w.heap.size < w2.heap.size := (by omega); have hy2 : w1.heap.size < w2.heap.size := (by omega))
    | (go_at_call 38; refine (vstride_any _ W H C B pl P _ ⟨by go_simp, by go_simp, by go_simp, by go_simp, by go_simp, by go_simp⟩ hok).mono ?_; rintro e w3 ⟨rfl, hb3⟩; obtain ⟨hc3, hf3, hz3⟩ := after hb3; have hx3 : w.heap.size < w3.heap.size := (by omega); have hy3 : w1.heap.size < w3.heap.size := (by omega)))
  have hB : Below w.heap.size w ((w3.alloc (.cells (madeCells #[.int .u8 0] N) 5)).setCell ⟨w1.heap.size, 7, none⟩ (.slice (some ⟨w3.heap.size, 0, none⟩) N N)) := by
    refine Below.setCell (Below.alloc ?_ (by omega) _) (by show _ ≤ w1.heap.size; omega) _
    refine Below.trans (b := w1.alloc (.cells #[.int .i64 W, .int .i64 H, .int .i64 C, .int .i64 B, .bool pl, .int .i64 P, .string O, .slice none 0 0] 92)) (Below.alloc (Below.trans ((Below.refl _ _).alloc (Nat.le_refl _) _) (hb1.mono (by simp))) (by omega) _) ((hb2.trans (hb3.mono hb2.size)).mono (by simp only [World.size_alloc]; omega))
  have hv : View ((w3.alloc (.cells (madeCells #[.int .u8 0] N) 5)).setCell ⟨w1.heap.size, 7, none⟩ (.slice (some ⟨w3.heap.size, 0, none⟩) N N)) w.heap.size w1.heap.size w3.heap.size ⟨W, H, C, B, pl, P⟩ (fun _ => 0) := by
    have hN' := HN.out
    have c7 : w3.cell? ⟨w1.heap.size, 7, none⟩ = some (.slice none 0 0) := by
      rw [hc3 _ _ (by omega), hc2 _ _ (by simp only [World.size_alloc]; omega)]; go_simp
    have c0 : ∀ o, o ≠ 7 → ((w3.alloc (.cells (madeCells #[.int .u8 0] N) 5)).setCell ⟨w1.heap.size, 7, none⟩ (.slice (some ⟨w3.heap.size, 0, none⟩) N N)).cell? ⟨w1.heap.size, o, none⟩ = (w1.alloc (.cells #[.int .i64 W, .int .i64 H, .int .i64 C, .int .i64 B, .bool pl, .int .i64 P, .string O, .slice none 0 0] 92)).cell? ⟨w1.heap.size, o, none⟩ := fun o ho => by
      rw [World.cell?_setCell_other _ _ _ _ (by intro e; have := congrArg Addr.off e; dsimp only at this; omega), World.cell?_alloc_lt _ _ _ (by show w1.heap.size < _; omega), hc3 _ _ (by omega), hc2 _ _ (by simp only [World.size_alloc]; omega)]
    refine ⟨⟨?_, ?_, ?_, ?_, ?_, ?_⟩, fun o ho => ?_, ⟨O, ?_⟩, ⟨N, ?_⟩, fun q hq => ⟨?_, ?_⟩, by omega, by omega, by omega⟩
    · rw [c0 _ (by decide)]; go_simp
    · rw [c0 _ (by decide)]; go_simp
    · rw [c0 _ (by decide)]; go_simp
    · rw [c0 _ (by decide)]; go_simp
    · rw [c0 _ (by decide)]; go_simp
    · rw [c0 _ (by decide)]; go_simp
    · rw [World.frozen?_setCell, World.frozen?_alloc_old _ _ _ (by show w1.heap.size ≠ _; omega), hf3 _ _ (by omega), hf2 _ _ (by simp only [World.size_alloc]; omega)]; simp
    · rw [c0 _ (by decide)]; go_simp
    · rw [World.cell?_setCell_same _ _ _ ((World.cell?_alloc_lt _ _ _ (by show w1.heap.size < _; omega)).trans c7), hN']
    · rw [World.cell?_setCell_other _ _ _ _ (by intro e; have := congrArg Addr.block e; dsimp only at this; omega), World.cell?_alloc_new]
      have : q < N := by omega
      simp [madeCells, this, Nat.mod_one]
    · rw [World.frozen?_setCell]; exact World.frozen?_alloc_new _ _ _ _
  rw [World.setCell_alloc_past _ _ _ _ (by omega)] at hv hB
  have HV := Lib.hid hv
  have HB := Lib.hid hB
  clear hv hB
  go_wp2
  go_ret2
  exact ⟨w1.heap.size, w3.heap.size, rfl, HV.out, HB.out⟩

set_option maxRecDepth 100000 in
set_option maxHeartbeats 1000000 in
theorem closed_any (L : Lay) (hok : L.ok) (base b b2 : Nat) (g : Int → Int) (w : World) (hv : View w base b b2 L g) :
    Calls Try.prog 42 #[.pointer (some ⟨b, 0, none⟩)] w fun e w' => e = .returned (L.img (octS L.len.toNat g)) ∧ Upd b w w' := by
  have hl := hv.lt
  have hl2 := hv.lt2 hok
  obtain ⟨cap, hsl⟩ := hv.sl
  obtain ⟨s6, h6⟩ := hv.o6
  have hf6 := hv.fz 6 (by omega)
  have hlb := L.len_bd hok
  have hcv := fun (W : World) (hW : Below w.heap.size w W) => run_convert_bytes_arg (P := Try.prog) W 70 5 Try.underlying70 Try.underlying5 b2 0 L.len.toNat cap ((List.range L.len.toNat).map fun p => g (p : Nat)) (by simp) (fun i hi => by
    rw [Nat.zero_add, hW.cell (p := ⟨b2, i, none⟩) hl2, (hv.bt i hi).1]
    simp [List.getD, hi]) 9 Try.underlying9
  have hcv1 := hcv (w.alloc (.cells #[.int .i64 0, .int .i64 0, .int .i64 0, .int .i64 0, .bool false, .int .i64 0, .string ⟨#[]⟩] 31)) ((Below.refl _ _).alloc (Nat.le_refl _) _)
  obtain ⟨v0, v1, v2, v3, v4, v5⟩ := hv.hd
  clear hcv hv
  go_enter Try.func42, Try.ntmps42
  go_wp2
  exact bodyPost_ret (v := L.img (octS L.len.toNat g)) (by simp [results, Try.results42, go_sem, Lay.img, octS]) rfl ⟨rfl, (Upd.setCell _ _ _ _).trans (Upd.of_below ((Below.refl _ _).alloc (Nat.le_refl _) _))⟩

end Go.Proofs.Ytphfbjeaklpddaa

/- Layer 42: Check, Stride, Make, at, Get. -/
namespace Go.Proofs.Ytphfbjeaklpddaa
open Go.RowKit

theorem open_bad (L : Lay) (O : ByteArray) (w : World) (hn : ¬ L.valid O) :
    Calls Try.prog 37 #[L.img O] w fun e w' => e = .returned (.tuple #[.pointer none, .int .i64 420]) ∧ Below w.heap.size w w' := by
  by_cases h1 : shpB L.W L.H L.C L.B L.P = true
  · have hok : L.ok := (shpB_iff _ _ _ _ _).1 h1
    by_cases h2 : (O.size : Int) = L.len
    · have h3 : ∃ p0 : Nat, (p0 : Int) < L.len ∧ L.pad p0 ∧ octAt O p0 ≠ 0 := by
        apply Classical.byContradiction
        intro h4
        refine hn ⟨hok, h2, fun p p0 p1 hp => Classical.byContradiction fun h5 => h4 ⟨p.toNat, ?_, ?_, ?_⟩⟩
        · omega
        · rw [Int.toNat_of_nonneg p0]; exact hp
        · rw [Int.toNat_of_nonneg p0]; exact h5
      obtain ⟨p0, hp⟩ := h3
      exact open_bad3 L O w hok h2 p0 hp
    · exact open_bad2 L O w hok h2
  · exact open_bad1 L O w (by simpa using h1)

theorem open_ok (L : Lay) (O : ByteArray) (w : World) (hv : L.valid O) : Calls Try.prog 37 #[L.img O] w (Opened L O w) :=
  open_good L O w hv.1 hv.2.1 hv.2.2

set_option maxHeartbeats 400000 in
theorem check_bad (L : Lay) (O : ByteArray) (w : World) (hn : ¬ L.valid O) :
    Calls Try.prog 15 #[L.img O] w fun e w' => e = .returned (.int .i64 420) ∧ Below w.heap.size w w' := by
  have HO := fun w => open_bad L O w hn
  unfold Lay.img at *
  have HO := Lib.hid HO
  go_enter Try.func15, Try.ntmps15
  go_wp2_with fail
  (with_reducible refine (HO.out _).mono ?_)
  rintro e w1 ⟨rfl, hb⟩
  go_wp2_with fail
  go_ret
  refine ⟨rfl, ?_⟩
  repeat (first | (with_reducible exact Below.refl _ _) | (with_reducible refine Below.setCell ?_ ?_ _) | (with_reducible refine Below.alloc ?_ ?_ _) | (with_reducible refine Below.drew ?_) | (with_reducible refine Below.trans ?_ (Below.mono (by assumption) ?_)))
  all_goals ((try simp only [World.size_alloc, World.size_drew, World.size_setCell]); omega)

set_option maxHeartbeats 400000 in
theorem check_ok (L : Lay) (O : ByteArray) (w : World) (hn : L.valid O) :
    Calls Try.prog 15 #[L.img O] w fun e w' => e = .returned (.int .i64 0) ∧ Below w.heap.size w w' := by
  have HO := fun w => open_ok L O w hn
  unfold Lay.img at *
  have HO := Lib.hid HO
  go_enter Try.func15, Try.ntmps15
  go_wp2_with fail
  (with_reducible refine (HO.out _).mono ?_)
  rintro e w1 ⟨b, b2, rfl, hv, hb⟩
  go_wp2_with fail
  go_ret
  refine ⟨rfl, ?_⟩
  repeat (first | (with_reducible exact Below.refl _ _) | (with_reducible refine Below.setCell ?_ ?_ _) | (with_reducible refine Below.alloc ?_ ?_ _) | (with_reducible refine Below.drew ?_) | (with_reducible refine Below.trans ?_ (Below.mono (by assumption) ?_)))
  all_goals ((try simp only [World.size_alloc, World.size_drew, World.size_setCell]); omega)

set_option maxHeartbeats 400000 in
theorem stride_bad (L : Lay) (O : ByteArray) (w : World) (hn : ¬ L.valid O) :
    Calls Try.prog 13 #[L.img O] w fun e w' => e = .returned (.tuple #[.int .i64 0, .int .i64 420]) ∧ Below w.heap.size w w' := by
  have HO := fun w => open_bad L O w hn
  unfold Lay.img at *
  have HO := Lib.hid HO
  go_enter Try.func13, Try.ntmps13
  go_wp2_with fail
  (with_reducible refine (HO.out _).mono ?_)
  rintro e w1 ⟨rfl, hb⟩
  go_wp2_with fail
  go_ret2
  refine ⟨rfl, ?_⟩
  repeat (first | (with_reducible exact Below.refl _ _) | (with_reducible refine Below.setCell ?_ ?_ _) | (with_reducible refine Below.alloc ?_ ?_ _) | (with_reducible refine Below.drew ?_) | (with_reducible refine Below.trans ?_ (Below.mono (by assumption) ?_)))
  all_goals ((try simp only [World.size_alloc, World.size_drew, World.size_setCell]); omega)

set_option maxHeartbeats 400000 in
theorem stride_ok (L : Lay) (O : ByteArray) (w : World) (hn : L.valid O) :
    Calls Try.prog 13 #[L.img O] w fun e w' => e = .returned (.tuple #[.int .i64 L.str, .int .i64 0]) ∧ Below w.heap.size w w' := by
  have HO := fun w => open_ok L O w hn
  unfold Lay.img at *
  have HO := Lib.hid HO
  go_enter Try.func13, Try.ntmps13
  go_wp2_with fail
  (with_reducible refine (HO.out _).mono ?_)
  rintro e w1 ⟨b, b2, rfl, hv, hb⟩
  have HC := Lib.hid (vstride_any b L.W L.H L.C L.B L.pl L.P w1 hv.hd hn.1)
  clear hv
  go_wp2_with fail
  (with_reducible refine HC.out.mono ?_)
  rintro e w2 ⟨rfl, hb2⟩
  have hz := hb.size
  have hz2 := hb2.size
  simp only [World.size_alloc] at hz
  go_wp2_with fail
  go_ret2
  refine ⟨rfl, ?_⟩
  repeat (first | (with_reducible exact Below.refl _ _) | (with_reducible refine Below.setCell ?_ ?_ _) | (with_reducible refine Below.alloc ?_ ?_ _) | (with_reducible refine Below.drew ?_) | (with_reducible refine Below.trans ?_ (Below.mono (by assumption) ?_)))
  all_goals ((try simp only [World.size_alloc, World.size_drew, World.size_setCell]); omega)

end Go.Proofs.Ytphfbjeaklpddaa

/- Layer 42: Make, at, Get, inside. -/
namespace Go.Proofs.Ytphfbjeaklpddaa
open Go.RowKit

/-- no image -/
abbrev zimg : Value := imgV 0 0 0 0 false 0 ⟨#[]⟩

/-- what holds behind a step that may turn block b alone -/
theorem afterU {b : Nat} {W w1 : World} (hb : Upd b W w1) : (∀ c o, c < W.heap.size → c ≠ b → w1.cell? ⟨c, o, none⟩ = W.cell? ⟨c, o, none⟩) ∧ (∀ c o, c < W.heap.size → c ≠ b → w1.frozen? ⟨c, o, none⟩ = W.frozen? ⟨c, o, none⟩) ∧ W.heap.size ≤ w1.heap.size :=
  ⟨fun c o h hn => hb.cell (p := ⟨c, o, none⟩) h hn, fun c o h hn => hb.frozen (p := ⟨c, o, none⟩) h hn, hb.size⟩

set_option maxHeartbeats 1000000 in
theorem make_bad (W H C B : Int) (pl : Bool) (P : Int) (w : World) (h : shpB W H C B P = false) :
    Calls Try.prog 17 #[.int .i64 W, .int .i64 H, .int .i64 C, .int .i64 B, .bool pl, .int .i64 P] w fun e w' => e = .returned (.tuple #[zimg, .int .i64 2]) ∧ Below w.heap.size w w' := by
  have HO := fun w => blank_bad ⟨W, H, C, B, pl, P⟩ ⟨#[]⟩ w h
  unfold Lay.img at HO
  have HO := Lib.hid HO
  go_enter Try.func17, Try.ntmps17
  go_wp2_with fail
  (with_reducible refine (HO.out _).mono ?_)
  rintro e w1 ⟨rfl, hb⟩
  obtain ⟨hc, hf, hz⟩ := after hb
  simp only [World.size_alloc] at hz
  have hx : w.heap.size < w1.heap.size := by omega
  go_wp2_with fail
  refine bodyPost_ret (v := .tuple #[zimg, .int .i64 2]) ?_ rfl ?_
  · simp [results, Try.results17, go_sem, hc, hx]
  refine ⟨rfl, ?_⟩
  repeat (first | (with_reducible exact Below.refl _ _) | (with_reducible refine Below.setCell ?_ ?_ _) | (with_reducible refine Below.alloc ?_ ?_ _) | (with_reducible refine Below.drew ?_) | (with_reducible refine Below.trans ?_ (Below.mono (by assumption) ?_)))
  all_goals ((try simp only [World.size_alloc, World.size_drew, World.size_setCell]); omega)

set_option maxHeartbeats 1000000 in
theorem make_ok (L : Lay) (w : World) (h : L.ok) :
    Calls Try.prog 17 #[.int .i64 L.W, .int .i64 L.H, .int .i64 L.C, .int .i64 L.B, .bool L.pl, .int .i64 L.P] w fun e w' => e = .returned (.tuple #[L.img (octS L.len.toNat (fun _ => 0)), .int .i64 0]) ∧ Below w.heap.size w w' := by
  have HO := fun w => blank_good L ⟨#[]⟩ w h
  unfold Lay.img at HO
  have HO := Lib.hid HO
  go_enter Try.func17, Try.ntmps17
  go_wp2_with fail
  (with_reducible refine (HO.out _).mono ?_)
  rintro e w1 ⟨b, b2, rfl, hv, hb⟩
  obtain ⟨hc, hf, hz⟩ := after hb
  simp only [World.size_alloc] at hz
  have hx : w.heap.size < w1.heap.size := by omega
  have hl := hv.b1
  simp only [World.size_alloc] at hl
  have hne : w.heap.size ≠ b := by omega
  have hlt := hv.lt
  have hcl := closed_any L h _ b b2 _ w1 hv
  unfold Lay.img at hcl
  have HC := Lib.hid hcl
  clear hcl hv
  go_wp2_with fail
  (with_reducible refine HC.out.mono ?_)
  rintro e w2 ⟨rfl, hu⟩
  obtain ⟨hc2, hf2, hz2⟩ := afterU hu
  have hx2 : w.heap.size < w2.heap.size := by omega
  have hb2 := hu.below (B := w.heap.size) (by omega) (by omega)
  go_wp2_with fail
  refine bodyPost_ret (v := .tuple #[L.img (octS L.len.toNat (fun _ => 0)), .int .i64 0]) ?_ rfl ?_
  · simp [results, Try.results17, go_sem, Lay.img, hc2, hc, hx, hx2, hne]
  refine ⟨rfl, ?_⟩
  repeat (first | (with_reducible exact Below.refl _ _) | (with_reducible refine Below.setCell ?_ ?_ _) | (with_reducible refine Below.alloc ?_ ?_ _) | (with_reducible refine Below.drew ?_) | (with_reducible refine Below.trans ?_ (Below.mono (by assumption) ?_)))
  all_goals ((try simp only [World.size_alloc, World.size_drew, World.size_setCell]); omega)

end Go.Proofs.Ytphfbjeaklpddaa

/- Layer 42: at, Get, inside. -/
namespace Go.Proofs.Ytphfbjeaklpddaa
open Go.RowKit

def thereB (L : Lay) (x y : Int) : Bool := inB x 0 (L.W - 1) && inB y 0 (L.H - 1)

set_option maxHeartbeats 400000 in
theorem at_bad (L : Lay) (O : ByteArray) (x y : Int) (w : World) (hn : ¬ L.valid O) :
    Calls Try.prog 46 #[L.img O, .int .i64 x, .int .i64 y] w fun e w' => e = .returned (.tuple #[.pointer none, .int .i64 420]) ∧ Below w.heap.size w w' := by
  have HO := fun w => open_bad L O w hn
  unfold Lay.img at *
  have HO := Lib.hid HO
  go_enter Try.func46, Try.ntmps46
  go_wp2_with fail
  (with_reducible refine (HO.out _).mono ?_)
  rintro e w1 ⟨rfl, hb⟩
  go_wp2_with fail
  go_ret2
  refine ⟨rfl, ?_⟩
  ((repeat (first | (with_reducible exact Below.refl _ _) | (with_reducible refine Below.setCell ?_ ?_ _) | (with_reducible refine Below.alloc ?_ ?_ _) | (with_reducible refine Below.drew ?_) | (with_reducible refine Below.trans ?_ (Below.mono (by assumption) ?_)))); all_goals ((try simp only [World.size_alloc, World.size_drew, World.size_setCell]); omega))

set_option maxHeartbeats 1000000 in
theorem at_none (L : Lay) (O : ByteArray) (x y : Int) (w : World) (hn : L.valid O) (ht : thereB L x y = false) :
    Calls Try.prog 46 #[L.img O, .int .i64 x, .int .i64 y] w fun e w' => e = .returned (.tuple #[.pointer none, .int .i64 2]) ∧ Below w.heap.size w w' := by
  have HO := fun w => open_ok L O w hn
  have hok := hn.1
  have q1 := hok.w1
  have q2 := hok.w2
  have q3 := hok.h1
  have q4 := hok.h2
  unfold Lay.img at *
  have HO := Lib.hid HO
  unfold thereB at ht
  cases hx : inB x 0 (L.W - 1)
  · clear ht
    go_enter Try.func46, Try.ntmps46
    go_wp2_with fail
    (with_reducible refine (HO.out _).mono ?_)
    rintro e w1 ⟨b, b2, rfl, hv, hb⟩
    obtain ⟨v0, v1, v2, v3, v4, v5⟩ := hv.hd
    have hl := hv.lt
    have hz := hb.size
    simp only [World.size_alloc] at hz
    clear hv
    go_wp2_with (first | (go_at_call 50; (with_reducible refine (between1 0 (L.W - 1) x _ _ _ ?_).mono ?_); go_simp; rintro e w2 ⟨rfl, hb2⟩; obtain ⟨hc2, hf2, hz2⟩ := after hb2; simp only [World.size_alloc] at hz2; have hx2 : b < w2.heap.size := (by omega); have hy2 : b ≤ w2.heap.size := (by omega)) | (go_at_call 50; (with_reducible refine (between1 0 (L.H - 1) y _ _ _ ?_).mono ?_); go_simp; rintro e w3 ⟨rfl, hb3⟩; obtain ⟨hc3, hf3, hz3⟩ := after hb3; simp only [World.size_alloc] at hz3; have hx3 : b < w3.heap.size := (by omega); have hy3 : b ≤ w3.heap.size := (by omega)))
    go_ret2
    refine ⟨rfl, ?_⟩
    ((repeat (first | (with_reducible exact Below.refl _ _) | (with_reducible refine Below.setCell ?_ ?_ _) | (with_reducible refine Below.alloc ?_ ?_ _) | (with_reducible refine Below.drew ?_) | (with_reducible refine Below.trans ?_ (Below.mono (by assumption) ?_)))); all_goals ((try simp only [World.size_alloc, World.size_drew, World.size_setCell]); omega))
  · rw [hx, Bool.true_and] at ht
    go_enter Try.func46, Try.ntmps46
    go_wp2_with fail
    (with_reducible refine (HO.out _).mono ?_)
    rintro e w1 ⟨b, b2, rfl, hv, hb⟩
    obtain ⟨v0, v1, v2, v3, v4, v5⟩ := hv.hd
    have hl := hv.lt
    have hz := hb.size
    simp only [World.size_alloc] at hz
    clear hv
    go_wp2_with (first | (go_at_call 50; (with_reducible refine (between1 0 (L.W - 1) x _ _ _ ?_).mono ?_); go_simp; rintro e w2 ⟨rfl, hb2⟩; obtain ⟨hc2, hf2, hz2⟩ := after hb2; simp only [World.size_alloc] at hz2; have hx2 : b < w2.heap.size := (by omega); have hy2 : b ≤ w2.heap.size := (by omega)) | (go_at_call 50; (with_reducible refine (between1 0 (L.H - 1) y _ _ _ ?_).mono ?_); go_simp; rintro e w3 ⟨rfl, hb3⟩; obtain ⟨hc3, hf3, hz3⟩ := after hb3; simp only [World.size_alloc] at hz3; have hx3 : b < w3.heap.size := (by omega); have hy3 : b ≤ w3.heap.size := (by omega)))
    go_ret2
    refine ⟨rfl, ?_⟩
    ((repeat (first | (with_reducible exact Below.refl _ _) | (with_reducible refine Below.setCell ?_ ?_ _) | (with_reducible refine Below.alloc ?_ ?_ _) | (with_reducible refine Below.drew ?_) | (with_reducible refine Below.trans ?_ (Below.mono (by assumption) ?_)))); all_goals ((try simp only [World.size_alloc, World.size_drew, World.size_setCell]); omega))

set_option maxHeartbeats 1000000 in
theorem at_ok (L : Lay) (O : ByteArray) (x y : Int) (w : World) (hn : L.valid O) (ht : thereB L x y = true) :
    Calls Try.prog 46 #[L.img O, .int .i64 x, .int .i64 y] w (Opened L O w) := by
  have HO := fun w => open_ok L O w hn
  have hok := hn.1
  have q1 := hok.w1
  have q2 := hok.w2
  have q3 := hok.h1
  have q4 := hok.h2
  unfold Lay.img at *
  have HO := Lib.hid HO
  unfold thereB at ht
  rw [Bool.and_eq_true] at ht
  obtain ⟨hx, hy⟩ := ht
  go_enter Try.func46, Try.ntmps46
  go_wp2_with fail
  (with_reducible refine (HO.out _).mono ?_)
  rintro e w1 ⟨b, b2, rfl, hv, hb⟩
  obtain ⟨v0, v1, v2, v3, v4, v5⟩ := hv.hd
  have hl := hv.lt
  have hz := hb.size
  simp only [World.size_alloc] at hz
  have HV := Lib.hid hv
  clear hv
  go_wp2_with (first | (go_at_call 50; (with_reducible refine (between1 0 (L.W - 1) x _ _ _ ?_).mono ?_); go_simp; rintro e w2 ⟨rfl, hb2⟩; obtain ⟨hc2, hf2, hz2⟩ := after hb2; simp only [World.size_alloc] at hz2; have hx2 : b < w2.heap.size := (by omega); have hy2 : b ≤ w2.heap.size := (by omega)) | (go_at_call 50; (with_reducible refine (between1 0 (L.H - 1) y _ _ _ ?_).mono ?_); go_simp; rintro e w3 ⟨rfl, hb3⟩; obtain ⟨hc3, hf3, hz3⟩ := after hb3; simp only [World.size_alloc] at hz3; have hx3 : b < w3.heap.size := (by omega); have hy3 : b ≤ w3.heap.size := (by omega)))
  go_ret2
  have hB1 : Below w1.heap.size w1 w3 := by
    ((repeat (first | (with_reducible exact Below.refl _ _) | (with_reducible refine Below.setCell ?_ ?_ _) | (with_reducible refine Below.alloc ?_ ?_ _) | (with_reducible refine Below.drew ?_) | (with_reducible refine Below.trans ?_ (Below.mono (by assumption) ?_)))); all_goals ((try simp only [World.size_alloc, World.size_drew, World.size_setCell]); omega))
  refine ⟨b, b2, rfl, ?_, ?_⟩
  · have := HV.out.below hok hB1
    exact ⟨this.hd, this.fz, this.o6, this.sl, this.bt, this.ne, Nat.le_trans (by simp) this.b1, Nat.le_trans (by simp) this.b2⟩
  clear hB1
  ((repeat (first | (with_reducible exact Below.refl _ _) | (with_reducible refine Below.setCell ?_ ?_ _) | (with_reducible refine Below.alloc ?_ ?_ _) | (with_reducible refine Below.drew ?_) | (with_reducible refine Below.trans ?_ (Below.mono (by assumption) ?_)))); all_goals ((try simp only [World.size_alloc, World.size_drew, World.size_setCell]); omega))

end Go.Proofs.Ytphfbjeaklpddaa

/- Layer 42: Get, inside. -/
namespace Go.Proofs.Ytphfbjeaklpddaa
open Go.RowKit

/-- the samples of an image -/
def Lay.fn (L : Lay) (O : ByteArray) : Int → Int → Int → Int := L.smp (octAt O)

theorem Opened.view {L : Lay} {O : ByteArray} (hv : L.valid O) {w : World} {base b b2 : Nat} (h : View w base b b2 L (octAt O)) : View w base b b2 L (L.octF (L.fn O)) :=
  h.congr fun _ p0 p1 => (L.octF_smp hv.1 (octAt O) (octAt_range O) hv.2.2 p0 p1).symm

set_option maxHeartbeats 400000 in
theorem get_bad (L : Lay) (O : ByteArray) (x y : Int) (w : World) (hn : ¬ L.valid O) :
    Calls Try.prog 19 #[L.img O, .int .i64 x, .int .i64 y] w fun e w' => e = .returned (.tuple #[.slice none 0 0, .int .i64 420]) ∧ Below w.heap.size w w' := by
  have HO := fun w => at_bad L O x y w hn
  unfold Lay.img at *
  have HO := Lib.hid HO
  go_enter Try.func19, Try.ntmps19
  go_wp2_with fail
  (with_reducible refine (HO.out _).mono ?_)
  rintro e w1 ⟨rfl, hb⟩
  go_wp2_with fail
  go_ret2
  refine ⟨rfl, ?_⟩
  ((repeat (first | (with_reducible exact Below.refl _ _) | (with_reducible refine Below.setCell ?_ ?_ _) | (with_reducible refine Below.alloc ?_ ?_ _) | (with_reducible refine Below.drew ?_) | (with_reducible refine Below.trans ?_ (Below.mono (by assumption) ?_)))); all_goals ((try simp only [World.size_alloc, World.size_drew, World.size_setCell]); omega))

set_option maxHeartbeats 400000 in
theorem get_none (L : Lay) (O : ByteArray) (x y : Int) (w : World) (hn : L.valid O) (ht : thereB L x y = false) :
    Calls Try.prog 19 #[L.img O, .int .i64 x, .int .i64 y] w fun e w' => e = .returned (.tuple #[.slice none 0 0, .int .i64 2]) ∧ Below w.heap.size w w' := by
  have HO := fun w => at_none L O x y w hn ht
  unfold Lay.img at *
  have HO := Lib.hid HO
  go_enter Try.func19, Try.ntmps19
  go_wp2_with fail
  (with_reducible refine (HO.out _).mono ?_)
  rintro e w1 ⟨rfl, hb⟩
  go_wp2_with fail
  go_ret2
  refine ⟨rfl, ?_⟩
  ((repeat (first | (with_reducible exact Below.refl _ _) | (with_reducible refine Below.setCell ?_ ?_ _) | (with_reducible refine Below.alloc ?_ ?_ _) | (with_reducible refine Below.drew ?_) | (with_reducible refine Below.trans ?_ (Below.mono (by assumption) ?_)))); all_goals ((try simp only [World.size_alloc, World.size_drew, World.size_setCell]); omega))

theorem thereB_iff (L : Lay) (x y : Int) : thereB L x y = true ↔ (0 ≤ x ∧ x < L.W) ∧ (0 ≤ y ∧ y < L.H) := by
  unfold thereB
  rw [Bool.and_eq_true, inB_iff, inB_iff]
  omega

/-- a new list, and no error -/
def GetPost (h : Int → Int) (n : Nat) (w : World) : Ending → World → Prop := fun e w' =>
  ∃ b cap : Nat, e = .returned (.tuple #[.slice (some ⟨b, 0, none⟩) n cap, .int .i64 0]) ∧ Ints w' (some ⟨b, 0, none⟩) ((List.range n).map fun i => h (i : Nat)) ∧ w.heap.size ≤ b ∧ b < w'.heap.size ∧ Below w.heap.size w w'

set_option maxHeartbeats 400000 in
theorem get_ok (L : Lay) (O : ByteArray) (x y : Int) (w : World) (hn : L.valid O) (ht : thereB L x y = true) :
    Calls Try.prog 19 #[L.img O, .int .i64 x, .int .i64 y] w (GetPost (fun c => L.fn O x y c) L.C.toNat w) := by
  have HO := fun w => at_ok L O x y w hn ht
  obtain ⟨⟨x0, xW⟩, ⟨y0, yH⟩⟩ := (thereB_iff L x y).1 ht
  unfold Lay.img at *
  have HO := Lib.hid HO
  go_enter Try.func19, Try.ntmps19
  go_wp2_with fail
  (with_reducible refine (HO.out _).mono ?_)
  rintro e w1 ⟨b, b2, rfl, hv, hb⟩
  have HP := Lib.hid (pixel_any L hn.1 _ b b2 (octAt O) (octAt_range O) x y w1 hv x0 xW y0 yH)
  clear hv
  go_wp2_with fail
  (with_reducible refine HP.out.mono ?_)
  rintro e w2 ⟨b3, cap, rfl, h1, h2, h3, h4⟩
  have H1 := Lib.hid h1
  have hz := hb.size
  simp only [World.size_alloc] at hz
  clear h1
  go_wp2_with fail
  go_ret2
  refine ⟨b3, cap, rfl, H1.out, by omega, h3, ?_⟩
  ((repeat (first | (with_reducible exact Below.refl _ _) | (with_reducible refine Below.setCell ?_ ?_ _) | (with_reducible refine Below.alloc ?_ ?_ _) | (with_reducible refine Below.drew ?_) | (with_reducible refine Below.trans ?_ (Below.mono (by assumption) ?_)))); all_goals ((try simp only [World.size_alloc, World.size_drew, World.size_setCell]); omega))

def insB (L : Lay) (x y wide high : Int) : Bool := inB x 0 (L.W - wide) && inB y 0 (L.H - high)

set_option maxHeartbeats 1000000 in
theorem inside_any (L : Lay) (hok : L.ok) (base b b2 : Nat) (g : Int → Int) (x y wide high : Int) (w : World) (hv : View w base b b2 L g) (a1 : 1 ≤ wide) (a2 : wide ≤ 64) (a3 : 1 ≤ high) (a4 : high ≤ 64) :
    Calls Try.prog 60 #[.pointer (some ⟨b, 0, none⟩), .int .i64 x, .int .i64 y, .int .i64 wide, .int .i64 high] w fun e w' => e = .returned (.bool (insB L x y wide high)) ∧ Below w.heap.size w w' := by
  have q1 := hok.w1
  have q2 := hok.w2
  have q3 := hok.h1
  have q4 := hok.h2
  have hl := hv.lt
  obtain ⟨v0, v1, v2, v3, v4, v5⟩ := hv.hd
  clear hv
  unfold insB
  cases hx : inB x 0 (L.W - wide)
  · go_enter Try.func60, Try.ntmps60
    go_wp2_with (first | (go_at_call 50; (with_reducible refine (between1 0 (L.W - wide) x _ _ _ ?_).mono ?_); go_simp; rintro e w2 ⟨rfl, hb2⟩; obtain ⟨hc2, hf2, hz2⟩ := after hb2; simp only [World.size_alloc] at hz2; have hx2 : b < w2.heap.size := (by omega); have hy2 : b ≤ w2.heap.size := (by omega)) | (go_at_call 50; (with_reducible refine (between1 0 (L.H - high) y _ _ _ ?_).mono ?_); go_simp; rintro e w3 ⟨rfl, hb3⟩; obtain ⟨hc3, hf3, hz3⟩ := after hb3; simp only [World.size_alloc] at hz3))
    go_ret
    refine ⟨rfl, ?_⟩
    ((repeat (first | (with_reducible exact Below.refl _ _) | (with_reducible refine Below.setCell ?_ ?_ _) | (with_reducible refine Below.alloc ?_ ?_ _) | (with_reducible refine Below.drew ?_) | (with_reducible refine Below.trans ?_ (Below.mono (by assumption) ?_)))); all_goals ((try simp only [World.size_alloc, World.size_drew, World.size_setCell]); omega))
  · go_enter Try.func60, Try.ntmps60
    go_wp2_with (first | (go_at_call 50; (with_reducible refine (between1 0 (L.W - wide) x _ _ _ ?_).mono ?_); go_simp; rintro e w2 ⟨rfl, hb2⟩; obtain ⟨hc2, hf2, hz2⟩ := after hb2; simp only [World.size_alloc] at hz2; have hx2 : b < w2.heap.size := (by omega); have hy2 : b ≤ w2.heap.size := (by omega)) | (go_at_call 50; (with_reducible refine (between1 0 (L.H - high) y _ _ _ ?_).mono ?_); go_simp; rintro e w3 ⟨rfl, hb3⟩; obtain ⟨hc3, hf3, hz3⟩ := after hb3; simp only [World.size_alloc] at hz3))
    go_ret
    refine ⟨rfl, ?_⟩
    ((repeat (first | (with_reducible exact Below.refl _ _) | (with_reducible refine Below.setCell ?_ ?_ _) | (with_reducible refine Below.alloc ?_ ?_ _) | (with_reducible refine Below.drew ?_) | (with_reducible refine Below.trans ?_ (Below.mono (by assumption) ?_)))); all_goals ((try simp only [World.size_alloc, World.size_drew, World.size_setCell]); omega))

end Go.Proofs.Ytphfbjeaklpddaa
