/-
  Layer 42: put as one; pixel's closures.
-/
import Derived.Test.YtphfbjeaklpddaaIx
namespace Go.Proofs.Ytphfbjeaklpddaa
open Go.RowKit

theorem put_any (L : Lay) (hok : L.ok) (base b b2 : Nat) (f : Int → Int → Int → Int) (x y : Int) (xs : List Int) (a : Option Addr) (cap : Nat) (w : World)
    (hv : View w base b b2 L (L.octF f)) (x0 : 0 ≤ x) (xW : x < L.W) (y0 : 0 ≤ y) (yH : y < L.H) (hxs : Ints w a xs) (hlen : (xs.length : Int) ≤ L.C) (hna : ∀ c off, a = some ⟨c, off, none⟩ → c ≠ b2) :
    Calls Try.prog 51 #[.pointer (some ⟨b, 0, none⟩), .int .i64 x, .int .i64 y, .slice a xs.length cap] w (PutPost L base b b2 f x y xs w) := by
  rcases L.n_cases hok with ⟨hn, hB⟩ | ⟨hn, hB⟩
  · exact put8 L hok hn hB base b b2 f x y xs a cap w hv x0 xW y0 yH hxs hlen hna
  · exact put16 L hok hn hB base b b2 f x y xs a cap w hv x0 xW y0 yH hxs hlen hna

set_option maxHeartbeats 400000 in
theorem read8_any (bx b b2 len cap : Nat) (p v : Int) (w : World)
    (hx : w.cell? ⟨bx, 0, none⟩ = some (.pointer (some ⟨b, 0, none⟩))) (hs : w.cell? ⟨b, 7, none⟩ = some (.slice (some ⟨b2, 0, none⟩) len cap))
    (p0 : 0 ≤ p) (p1 : p < len) (hc : w.cell? ⟨b2, p.toNat, none⟩ = some (.int .u8 v)) (v0 : 0 ≤ v) (v1 : v < 256) :
    Calls Try.prog 68 #[.int .i64 p, .pointer (some ⟨bx, 0, none⟩)] w fun e w' => e = .returned (.int .i64 v) ∧ w = w' := by
  go_enter Try.func68, Try.ntmps68
  go_wp2
  go_ret
  exact ⟨rfl, rfl⟩

theorem or_bytes (a b : Int) (a0 : 0 ≤ a) (a1 : a < 256) (b0 : 0 ≤ b) (b1 : b < 256) : bits BinOp.or IntKind.i64 (a * 256) b = a * 256 + b := by
  obtain ⟨A, rfl⟩ := Int.eq_ofNat_of_zero_le a0
  obtain ⟨B, rfl⟩ := Int.eq_ofNat_of_zero_le b0
  show IntKind.i64.wrap ((BitVec.ofInt 64 ((A : Int) * 256) ||| BitVec.ofInt 64 (B : Int)).toNat : Int) = _
  have e : ((A : Int) * 256) = ((A * 256 : Nat) : Int) := by omega
  have h := Nat.two_pow_add_eq_or_of_lt (i := 8) (b := B) (by omega) A
  rw [e, BitVec.toNat_or, BitVec.ofInt_natCast, BitVec.ofInt_natCast, BitVec.toNat_ofNat, BitVec.toNat_ofNat, Nat.mod_eq_of_lt (by omega), Nat.mod_eq_of_lt (by omega),
    show A * 256 = 2 ^ 8 * A by omega, ← h]
  rw [IntWalk.i64_in _ (by omega)]
  omega

set_option maxRecDepth 100000 in
set_option maxHeartbeats 400000 in
theorem read16_any (bx b b2 len cap : Nat) (p v u : Int) (w : World)
    (hx : w.cell? ⟨bx, 0, none⟩ = some (.pointer (some ⟨b, 0, none⟩))) (hs : w.cell? ⟨b, 7, none⟩ = some (.slice (some ⟨b2, 0, none⟩) len cap))
    (p0 : 0 ≤ p) (p1 : p + 1 < len) (hl : (len : Int) ≤ 133120) (hc : w.cell? ⟨b2, p.toNat, none⟩ = some (.int .u8 v)) (v0 : 0 ≤ v) (v1 : v < 256) (hc2 : w.cell? ⟨b2, (p + 1).toNat, none⟩ = some (.int .u8 u)) (u0 : 0 ≤ u) (u1 : u < 256) :
    Calls Try.prog 69 #[.int .i64 p, .pointer (some ⟨bx, 0, none⟩)] w fun e w' => e = .returned (.int .i64 (256 * v + u)) ∧ Below w.heap.size w w' := by
  have hl1 : bx < w.heap.size := World.block_lt_of_cell? _ _ hx
  have hl2 : b < w.heap.size := World.block_lt_of_cell? _ _ hs
  have hl3 : b2 < w.heap.size := World.block_lt_of_cell? _ _ hc
  have HO := Lib.hid (or_bytes v u v0 v1 u0 u1)
  go_enter Try.func69, Try.ntmps69
  go_wp2
  refine wp_region_grow (by kernel_rfl) (by kernel_rfl) ?_
  repeat (go_big_quiet_step (fail))
  refine wpQuiet_nil ?_
  intro _ hw'
  obtain ⟨nq, hw''⟩ := hw'
  subst hw''
  go_wp2
  go_ret
  exact ⟨by rw [show 256 * v + u = v * 256 + u by omega, ← HO.out]; rfl, grow_below _ _⟩

/-- what a view's closure for reading does with a place -/
theorem readC (L : Lay) (hok : L.ok) (base b b2 : Nat) (g : Int → Int) (hg : ∀ p, 0 ≤ g p ∧ g p < 256) (bx : Nat) (p : Int) (w : World) (hv : View w base b b2 L g) (hx : w.cell? ⟨bx, 0, none⟩ = some (.pointer (some ⟨b, 0, none⟩)))
    (p0 : 0 ≤ p) (p1 : p + L.n ≤ L.len) :
    (L.n = 1 → Calls Try.prog 68 #[.int .i64 p, .pointer (some ⟨bx, 0, none⟩)] w fun e w' => e = .returned (.int .i64 (g p)) ∧ Below w.heap.size w w') ∧
    (L.n = 2 → Calls Try.prog 69 #[.int .i64 p, .pointer (some ⟨bx, 0, none⟩)] w fun e w' => e = .returned (.int .i64 (256 * g p + g (p + 1))) ∧ Below w.heap.size w w') := by
  obtain ⟨cap, hsl⟩ := hv.sl
  have hlb := L.len_bd hok
  constructor
  · intro hn
    have h1 := (hv.bt p.toNat (by omega)).1
    rw [Int.toNat_of_nonneg p0] at h1
    have h2 : w.cell? ⟨b2, p.toNat, none⟩ = some (.int .u8 (g p)) := h1
    exact (read8_any bx b b2 L.len.toNat cap p (g p) w hx hsl p0 (by omega) h2 (hg p).1 (hg p).2).mono fun e w' ⟨h2, h3⟩ => ⟨h2, by rw [← h3]; exact Below.refl _ _⟩
  · intro hn
    have h1 := (hv.bt p.toNat (by omega)).1
    have h2 := (hv.bt (p + 1).toNat (by omega)).1
    rw [Int.toNat_of_nonneg p0] at h1
    rw [Int.toNat_of_nonneg (by omega)] at h2
    exact read16_any bx b b2 L.len.toNat cap p (g p) (g (p + 1)) w hx hsl p0 (by omega) (by omega) h1 (hg p).1 (hg p).2 h2 (hg _).1 (hg _).2

set_option maxRecDepth 100000 in
set_option maxHeartbeats 1000000 in
theorem pix3_1 (L : Lay) (hok : L.ok) (hn : L.n = 1) (hB : L.B = 8) (base b b2 : Nat) (g : Int → Int) (hg : ∀ p, 0 ≤ g p ∧ g p < 256) (br bx b4 b5 : Nat) (x y c : Int) (w : World) (hv : View w base b b2 L g)
    (hr : w.cell? ⟨br, 0, none⟩ = some (.func (.func 68) #[] #[.pointer (some ⟨bx, 0, none⟩)])) (hx : w.cell? ⟨bx, 0, none⟩ = some (.pointer (some ⟨b, 0, none⟩)))
    (h4 : w.cell? ⟨b4, 0, none⟩ = some (.int .i64 x)) (h5 : w.cell? ⟨b5, 0, none⟩ = some (.int .i64 y)) (x0 : 0 ≤ x) (xW : x < L.W) (y0 : 0 ≤ y) (yH : y < L.H) (c0 : 0 ≤ c) (cC : c < L.C) :
    Calls Try.prog 70 #[.int .i64 c, .pointer (some ⟨br, 0, none⟩), .pointer (some ⟨bx, 0, none⟩), .pointer (some ⟨b4, 0, none⟩), .pointer (some ⟨b5, 0, none⟩)] w fun e w' => e = .returned (.int .i64 (L.smp g x y c)) ∧ Below w.heap.size w w' := by
  have hl1 : br < w.heap.size := World.block_lt_of_cell? _ _ hr
  have hl2 : bx < w.heap.size := World.block_lt_of_cell? _ _ hx
  have hl3 : b4 < w.heap.size := World.block_lt_of_cell? _ _ h4
  have hl5 : b5 < w.heap.size := World.block_lt_of_cell? _ _ h5
  have hdom : L.dom x y c := ⟨⟨x0, xW⟩, ⟨y0, yH⟩, ⟨c0, cC⟩⟩
  obtain ⟨p0, _, _⟩ := L.coords hok hdom (d := 0) (by omega) (by omega)
  obtain ⟨_, p1, _⟩ := L.coords hok hdom (d := 0) (by omega) (by omega)
  rw [Int.add_zero] at p0
  have hrd : ∀ W, Below w.heap.size w W → Calls Try.prog 68 #[.int .i64 (plcS L.W L.H L.C L.B L.pl L.P x y c), .pointer (some ⟨bx, 0, none⟩)] W fun e w' => e = .returned (.int .i64 (L.smp g x y c)) ∧ Below W.heap.size W w' := fun W hW => by
    have h1 := (readC L hok base b b2 g hg bx (L.plc x y c) W (hv.below hok hW) ((hW.cell (p := ⟨bx, 0, none⟩) hl2).trans hx) p0 (by omega)).1 hn
    have h2 : L.smp g x y c = g (L.plc x y c) := by unfold Lay.smp; rw [if_pos hB]
    rw [h2]; exact h1
  have HRD := Lib.hid hrd
  have HV := Lib.hid hv
  have HD := Lib.hid hdom
  clear hrd hv hB hdom
  go_enter Try.func70, Try.ntmps70
  go_wp2
  refine wp_region_grow (by kernel_rfl) (by kernel_rfl) ?_
  repeat (go_big_quiet_step (first
    | (go_at_call 71; exact calls_grow (vplace_any b L.W L.H L.C L.B L.pl L.P x y c _ ((HV.out.below hok (grow_below _ _)).hd) hok x0 xW y0 yH c0 cC))
    | (go_at_call 68; exact calls_grow (HRD.out _ (grow_below _ _)))))
  refine wpQuiet_nil ?_
  intro _ hw'
  obtain ⟨nq, hw''⟩ := hw'
  subst hw''
  go_wp2
  go_ret
  exact ⟨rfl, grow_below _ _⟩

set_option maxRecDepth 100000 in
set_option maxHeartbeats 1000000 in
theorem pix3_2 (L : Lay) (hok : L.ok) (hn : L.n = 2) (hB : L.B = 16) (base b b2 : Nat) (g : Int → Int) (hg : ∀ p, 0 ≤ g p ∧ g p < 256) (br bx b4 b5 : Nat) (x y c : Int) (w : World) (hv : View w base b b2 L g)
    (hr : w.cell? ⟨br, 0, none⟩ = some (.func (.func 69) #[] #[.pointer (some ⟨bx, 0, none⟩)])) (hx : w.cell? ⟨bx, 0, none⟩ = some (.pointer (some ⟨b, 0, none⟩)))
    (h4 : w.cell? ⟨b4, 0, none⟩ = some (.int .i64 x)) (h5 : w.cell? ⟨b5, 0, none⟩ = some (.int .i64 y)) (x0 : 0 ≤ x) (xW : x < L.W) (y0 : 0 ≤ y) (yH : y < L.H) (c0 : 0 ≤ c) (cC : c < L.C) :
    Calls Try.prog 70 #[.int .i64 c, .pointer (some ⟨br, 0, none⟩), .pointer (some ⟨bx, 0, none⟩), .pointer (some ⟨b4, 0, none⟩), .pointer (some ⟨b5, 0, none⟩)] w fun e w' => e = .returned (.int .i64 (L.smp g x y c)) ∧ Below w.heap.size w w' := by
  have hl1 : br < w.heap.size := World.block_lt_of_cell? _ _ hr
  have hl2 : bx < w.heap.size := World.block_lt_of_cell? _ _ hx
  have hl3 : b4 < w.heap.size := World.block_lt_of_cell? _ _ h4
  have hl5 : b5 < w.heap.size := World.block_lt_of_cell? _ _ h5
  have hdom : L.dom x y c := ⟨⟨x0, xW⟩, ⟨y0, yH⟩, ⟨c0, cC⟩⟩
  obtain ⟨p0, _, _⟩ := L.coords hok hdom (d := 0) (by omega) (by omega)
  obtain ⟨_, p1, _⟩ := L.coords hok hdom (d := 1) (by omega) (by omega)
  rw [Int.add_zero] at p0
  have hrd : ∀ W, Below w.heap.size w W → Calls Try.prog 69 #[.int .i64 (plcS L.W L.H L.C L.B L.pl L.P x y c), .pointer (some ⟨bx, 0, none⟩)] W fun e w' => e = .returned (.int .i64 (L.smp g x y c)) ∧ Below W.heap.size W w' := fun W hW => by
    have h1 := (readC L hok base b b2 g hg bx (L.plc x y c) W (hv.below hok hW) ((hW.cell (p := ⟨bx, 0, none⟩) hl2).trans hx) p0 (by omega)).2 hn
    have h2 : L.smp g x y c = 256 * g (L.plc x y c) + g (L.plc x y c + 1) := by unfold Lay.smp; rw [if_neg (by omega)]
    rw [h2]; exact h1
  have HRD := Lib.hid hrd
  have HV := Lib.hid hv
  have HD := Lib.hid hdom
  clear hrd hv hB hdom
  go_enter Try.func70, Try.ntmps70
  go_wp2
  refine wp_region_grow (by kernel_rfl) (by kernel_rfl) ?_
  repeat (go_big_quiet_step (first
    | (go_at_call 71; exact calls_grow (vplace_any b L.W L.H L.C L.B L.pl L.P x y c _ ((HV.out.below hok (grow_below _ _)).hd) hok x0 xW y0 yH c0 cC))
    | (go_at_call 69; exact calls_grow (HRD.out _ (grow_below _ _)))))
  refine wpQuiet_nil ?_
  intro _ hw'
  obtain ⟨nq, hw''⟩ := hw'
  subst hw''
  go_wp2
  go_ret
  exact ⟨rfl, grow_below _ _⟩

end Go.Proofs.Ytphfbjeaklpddaa
