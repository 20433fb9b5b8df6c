/-
  Layer 42: Shape's closures.
-/
import Derived.Test.YtphfbjeaklpddaaJn
namespace Go.Proofs.Ytphfbjeaklpddaa
open Go.RowKit Go.Shelf

def chg1 (v : Int) : Int := v
def chg2 (v : Int) : Int := 257 * v
def chg3 (v : Int) : Int := (v + 128) / 257

set_option maxHeartbeats 400000 in
theorem chg_1 (v : Int) (w : World) (v0 : 0 ≤ v) (v1 : v < 65536) :
    Calls Try.prog 53 #[.int .i64 v] w fun e w' => e = .returned (.int .i64 (chg1 v)) ∧ w = w' := by
  go_enter Try.func53, Try.ntmps53
  go_wp2
  go_ret
  exact ⟨rfl, rfl⟩

set_option maxHeartbeats 400000 in
theorem shp4_1 (bf bs b off len cap : Nat) (c : Nat) (v : Int) (w : World) (hc : c < len) (hl : len ≤ 4)
    (hf : w.cell? ⟨bf, 0, none⟩ = some (.func (.func 53) #[] #[])) (hs : w.cell? ⟨bs, 0, none⟩ = some (.slice (some ⟨b, off, none⟩) len cap)) (hv : w.cell? ⟨b, off + c, none⟩ = some (.int .i64 v)) (v0 : 0 ≤ v) (v1 : v < 65536) :
    Calls Try.prog 58 #[.int .i64 c, .pointer (some ⟨bf, 0, none⟩), .pointer (some ⟨bs, 0, none⟩)] w fun e w' => e = .returned (.int .i64 (chg1 v)) ∧ Below w.heap.size w w' := by
  have l1 : bf < w.heap.size := World.block_lt_of_cell? _ _ hf
  have l2 : bs < w.heap.size := World.block_lt_of_cell? _ _ hs
  have l3 : b < w.heap.size := World.block_lt_of_cell? _ _ hv
  go_enter Try.func58, Try.ntmps58
  go_wp2
  refine wp_region_grow (by kernel_rfl) (by kernel_rfl) ?_
  repeat (go_big_quiet_step ((go_at_call 53; exact calls_grow_same (chg_1 v _ v0 v1))))
  refine wpQuiet_nil ?_
  intro _ hw'
  obtain ⟨nq, hw''⟩ := hw'
  subst hw''
  go_wp2
  go_ret
  exact ⟨rfl, grow_below _ _⟩

set_option maxHeartbeats 400000 in
theorem chg_2 (v : Int) (w : World) (v0 : 0 ≤ v) (v1 : v < 65536) :
    Calls Try.prog 54 #[.int .i64 v] w fun e w' => e = .returned (.int .i64 (chg2 v)) ∧ w = w' := by
  go_enter Try.func54, Try.ntmps54
  go_wp2
  go_ret
  exact ⟨rfl, rfl⟩

set_option maxHeartbeats 400000 in
theorem shp4_2 (bf bs b off len cap : Nat) (c : Nat) (v : Int) (w : World) (hc : c < len) (hl : len ≤ 4)
    (hf : w.cell? ⟨bf, 0, none⟩ = some (.func (.func 54) #[] #[])) (hs : w.cell? ⟨bs, 0, none⟩ = some (.slice (some ⟨b, off, none⟩) len cap)) (hv : w.cell? ⟨b, off + c, none⟩ = some (.int .i64 v)) (v0 : 0 ≤ v) (v1 : v < 65536) :
    Calls Try.prog 58 #[.int .i64 c, .pointer (some ⟨bf, 0, none⟩), .pointer (some ⟨bs, 0, none⟩)] w fun e w' => e = .returned (.int .i64 (chg2 v)) ∧ Below w.heap.size w w' := by
  have l1 : bf < w.heap.size := World.block_lt_of_cell? _ _ hf
  have l2 : bs < w.heap.size := World.block_lt_of_cell? _ _ hs
  have l3 : b < w.heap.size := World.block_lt_of_cell? _ _ hv
  go_enter Try.func58, Try.ntmps58
  go_wp2
  refine wp_region_grow (by kernel_rfl) (by kernel_rfl) ?_
  repeat (go_big_quiet_step ((go_at_call 54; exact calls_grow_same (chg_2 v _ v0 v1))))
  refine wpQuiet_nil ?_
  intro _ hw'
  obtain ⟨nq, hw''⟩ := hw'
  subst hw''
  go_wp2
  go_ret
  exact ⟨rfl, grow_below _ _⟩

set_option maxHeartbeats 400000 in
theorem chg_3 (v : Int) (w : World) (v0 : 0 ≤ v) (v1 : v < 65536) :
    Calls Try.prog 55 #[.int .i64 v] w fun e w' => e = .returned (.int .i64 (chg3 v)) ∧ w = w' := by
  go_enter Try.func55, Try.ntmps55
  go_wp2
  go_ret
  exact ⟨rfl, rfl⟩

set_option maxHeartbeats 400000 in
theorem shp4_3 (bf bs b off len cap : Nat) (c : Nat) (v : Int) (w : World) (hc : c < len) (hl : len ≤ 4)
    (hf : w.cell? ⟨bf, 0, none⟩ = some (.func (.func 55) #[] #[])) (hs : w.cell? ⟨bs, 0, none⟩ = some (.slice (some ⟨b, off, none⟩) len cap)) (hv : w.cell? ⟨b, off + c, none⟩ = some (.int .i64 v)) (v0 : 0 ≤ v) (v1 : v < 65536) :
    Calls Try.prog 58 #[.int .i64 c, .pointer (some ⟨bf, 0, none⟩), .pointer (some ⟨bs, 0, none⟩)] w fun e w' => e = .returned (.int .i64 (chg3 v)) ∧ Below w.heap.size w w' := by
  have l1 : bf < w.heap.size := World.block_lt_of_cell? _ _ hf
  have l2 : bs < w.heap.size := World.block_lt_of_cell? _ _ hs
  have l3 : b < w.heap.size := World.block_lt_of_cell? _ _ hv
  go_enter Try.func58, Try.ntmps58
  go_wp2
  refine wp_region_grow (by kernel_rfl) (by kernel_rfl) ?_
  repeat (go_big_quiet_step ((go_at_call 55; exact calls_grow_same (chg_3 v _ v0 v1))))
  refine wpQuiet_nil ?_
  intro _ hw'
  obtain ⟨nq, hw''⟩ := hw'
  subst hw''
  go_wp2
  go_ret
  exact ⟨rfl, grow_below _ _⟩


theorem Lay.dm' (n : Nat) (b y a x : Int) (h : b * n + a = y * n + x) (a0 : 0 ≤ a) (a1 : a < n) (x0 : 0 ≤ x) (x1 : x < n) : b = y ∧ a = x := by
  obtain ⟨p1, p2⟩ := dm n b a a0 a1
  obtain ⟨p3, p4⟩ := dm n y x x0 x1
  rw [h] at p1 p2
  exact ⟨p1.symm.trans p3, p2.symm.trans p4⟩

/-- k pixels have come -/
def shpF (s : Int → Int → Int → Int) (ch : Int → Int) (wn : Int) (k : Nat) : Int → Int → Int → Int :=
  fun a b c => if b * wn + a < k then ch (s a b c) else 0

theorem shpF_zero (s : Int → Int → Int → Int) (ch : Int → Int) (wn : Int) (a b c : Int) (a0 : 0 ≤ a) (b0 : 0 ≤ b) (w0 : 0 ≤ wn) : shpF s ch wn 0 a b c = 0 := by
  unfold shpF
  have := Int.mul_nonneg b0 w0
  rw [if_neg (by omega)]

theorem shpF_put (s : Int → Int → Int → Int) (ch : Int → Int) (wn : Nat) (x y : Nat) (hx : x < wn) (n : Nat) (a b c : Int) (a0 : 0 ≤ a) (aw : a < wn) (b0 : 0 ≤ b) (c0 : 0 ≤ c) (cn : c < n) :
    putF (shpF s ch wn (y * wn + x)) x y ((List.range n).map fun j => ch (s x y (j : Nat))) ((List.range n).map fun j => ch (s x y (j : Nat))).length a b c = shpF s ch wn (y * wn + x + 1) a b c := by
  unfold putF
  by_cases e : a = x ∧ b = y
  · obtain ⟨rfl, rfl⟩ := e
    have hl : c.toNat < n := by omega
    rw [if_pos ⟨rfl, rfl, c0, by simpa using cn⟩]
    unfold shpF
    rw [if_pos (by push_cast; omega)]
    simp [hl, Int.toNat_of_nonneg c0]
  · rw [if_neg (by omega)]
    unfold shpF
    have key : b * wn + a ≠ ((y * wn + x : Nat) : Int) := by
      intro h
      push_cast at h
      obtain ⟨h1, h2⟩ := Lay.dm' wn b y a x h (by omega) aw (by omega) (by omega)
      exact e ⟨h2, h1⟩
    by_cases h : b * wn + a < ((y * wn + x : Nat) : Int)
    · rw [if_pos h, if_pos (by omega)]
    · rw [if_neg h, if_neg (by omega)]

end Go.Proofs.Ytphfbjeaklpddaa
