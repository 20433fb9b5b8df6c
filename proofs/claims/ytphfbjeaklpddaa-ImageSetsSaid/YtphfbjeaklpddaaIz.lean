/-
  Layer 42: made at its two closures; pixel.
-/
import Derived.Test.YtphfbjeaklpddaaIy
import Derived.Deep.OwnRows
import Derived.Deep.LoopGhost
namespace Go.Proofs.Ytphfbjeaklpddaa
open Go.RowKit

/-- a new list of the values h 0 .. h (n - 1) -/
def MadePost (h : Int → Int) (n : Nat) (w : World) : Ending → World → Prop := fun e w' =>
  ∃ b cap : Nat, e = .returned (.slice (some ⟨b, 0, none⟩) n cap) ∧ Ints w' (some ⟨b, 0, none⟩) ((List.range n).map fun i => h (i : Nat)) ∧ w.heap.size ≤ b ∧ b < w'.heap.size ∧ Below w.heap.size w w'

/-- what has been filled -/
structure Filled (h : Int → Int) (n k b : Nat) (w : World) : Prop where
  done : ∀ j : Nat, j < k → w.cell? ⟨b, j, none⟩ = some (.int .i64 (h j))
  there : ∀ j : Nat, j < n → ∃ v, w.cell? ⟨b, j, none⟩ = some v
  free : ∀ j : Nat, w.frozen? ⟨b, j, none⟩ = false

theorem Filled.below {h : Int → Int} {n k b : Nat} {w w' : World} (hF : Filled h n k b w) (hb : b < w.heap.size) (hB : Below w.heap.size w w') : Filled h n k b w' :=
  ⟨fun j hj => (hB.cell (p := ⟨b, j, none⟩) hb).trans (hF.done j hj), fun j hj => by rw [hB.cell (p := ⟨b, j, none⟩) hb]; exact hF.there j hj, fun j => (hB.frozen (p := ⟨b, j, none⟩) hb).trans (hF.free j)⟩

theorem Filled.step {h : Int → Int} {n k b : Nat} {w : World} (hF : Filled h n k b w) (hk : k < n) : Filled h n (k + 1) b (w.setCell ⟨b, k, none⟩ (.int .i64 (h k))) := by
  obtain ⟨v, hv⟩ := hF.there k hk
  have same := World.cell?_setCell_same w ⟨b, k, none⟩ (.int .i64 (h k)) hv
  have other : ∀ j, j ≠ k → (w.setCell ⟨b, k, none⟩ (.int .i64 (h k))).cell? ⟨b, j, none⟩ = w.cell? ⟨b, j, none⟩ := fun j hj =>
    World.cell?_setCell_other w ⟨b, k, none⟩ ⟨b, j, none⟩ _ (by intro e; have := congrArg Addr.off e; dsimp only at this; omega)
  refine ⟨fun j hj => ?_, fun j hj => ?_, fun j => by rw [World.frozen?_setCell]; exact hF.free j⟩
  · by_cases e : j = k
    · subst e; exact same
    · rw [other j e]; exact hF.done j (by omega)
  · by_cases e : j = k
    · subst e; exact ⟨_, same⟩
    · rw [other j e]; exact hF.there j hj

theorem Filled.start (h : Int → Int) (n : Nat) (w : World) : Filled h n 0 w.heap.size (w.alloc (.cells (madeCells #[.int .i64 0] n) 3)) :=
  ⟨fun j hj => by omega, fun j hj => ⟨.int .i64 0, by rw [World.cell?_alloc_new]; simp [madeCells, hj, Nat.mod_one]⟩, fun j => World.frozen?_alloc_new _ _ _ _⟩

theorem Filled.ints {h : Int → Int} {n b : Nat} {w : World} (hF : Filled h n n b w) : Ints w (some ⟨b, 0, none⟩) ((List.range n).map fun i => h (i : Nat)) :=
  fun _ => ⟨b, 0, rfl, fun i hi => by
    have hi' : i < n := by simpa using hi
    rw [Nat.zero_add, hF.done i hi']
    simp [hi']⟩

theorem info_int : (Try.prog.info? 3).map (fun i => (i.zero, i.size, i.bytes)) = some (some (.int .i64 0), 1, 8) := by kernel_rfl

set_option maxRecDepth 100000 in
set_option maxHeartbeats 1000000 in
theorem made_70 (n : Nat) (hn : n ≤ 1000) (q1 q2 q3 q4 : Addr) (h : Int → Int) (w : World)
    (hf : ∀ (c : Nat) W, c < n → Below w.heap.size w W → Calls Try.prog 70 #[.int .i64 c, .pointer (some q1), .pointer (some q2), .pointer (some q3), .pointer (some q4)] W fun e w' => e = .returned (.int .i64 (h c)) ∧ Below W.heap.size W w') :
    Calls Try.prog 57 #[.int .i64 n, .func (.func 70) #[] #[.pointer (some q1), .pointer (some q2), .pointer (some q3), .pointer (some q4)]] w (MadePost h n w) := by
  have hmk := run_make_row' (P := Try.prog) 44 3 (.int .i64 0) 8 Try.underlying44 info_int rfl .i64 .i64 n (by omega) (by omega)
  have hstart := Filled.start h n w
  have hB0 : Below w.heap.size w (w.alloc (.cells (madeCells #[.int .i64 0] n) 3)) := (Below.refl _ _).alloc (Nat.le_refl _) _
  have HF := Lib.hid hf
  have HS := Lib.hid hstart
  have HB := Lib.hid hB0
  clear hf hstart hB0
  go_enter Try.func57, Try.ntmps57
  go_wp2
  go_loopw [6, 11] (fun _ i wr => ∃ k : Nat, k ≤ n ∧ i = .int .i64 k ∧ Filled h n k w.heap.size wr ∧ Below w.heap.size w wr ∧ w.heap.size < wr.heap.size) (fun _ i _ => n - (intOf i).toNat)
  case atStart => exact ⟨0, Nat.zero_le _, rfl, HS.out, HB.out, by simp⟩
  case round =>
    obtain ⟨k, hk, rfl, hFl, hB, hsz⟩ := hrel
    have HFl := Lib.hid hFl
    have HB := Lib.hid hB
    clear hFl hB
    by_cases hlt : k < n
    · have hcall := HF.out k wr hlt HB.out
      have HC := Lib.hid hcall
      clear hcall
      go_wp2_with fail
      (with_reducible refine HC.out.mono ?_)
      rintro e w1 ⟨rfl, hb1⟩
      have hF1 := HFl.out.below hsz hb1
      obtain ⟨v, hv⟩ := hF1.there k hlt
      have hfr := hF1.free k
      have hstep := hF1.step hlt
      have hsz1 : w.heap.size < w1.heap.size := Nat.lt_of_lt_of_le hsz hb1.size
      have hB1 := (HB.out.trans (hb1.mono (by omega))).setCell (p := ⟨w.heap.size, k, none⟩) (Nat.le_refl _) (.int .i64 (h k))
      have HST := Lib.hid hstep
      have HB1 := Lib.hid hB1
      clear hF1 hstep hB1 hb1
      go_wp2_with fail
      go_roundw
      case rel => exact ⟨k + 1, by omega, by go_num, HST.out, HB1.out, by simpa using hsz1⟩
      case measure => simp [intOf]; omega
    · have hkk : k = n := by omega
      have hi : Ints wr (some ⟨w.heap.size, 0, none⟩) ((List.range n).map fun i => h (i : Nat)) := by have := HFl.out; rw [hkk] at this; exact this.ints
      have HI := Lib.hid hi
      clear hi hkk
      go_wp2
      go_ret
      exact ⟨w.heap.size, n, rfl, HI.out, Nat.le_refl _, hsz, HB.out⟩

set_option maxRecDepth 100000 in
set_option maxHeartbeats 1000000 in
theorem made_58 (n : Nat) (hn : n ≤ 1000) (q1 q2 : Addr) (h : Int → Int) (w : World)
    (hf : ∀ (c : Nat) W, c < n → Below w.heap.size w W → Calls Try.prog 58 #[.int .i64 c, .pointer (some q1), .pointer (some q2)] W fun e w' => e = .returned (.int .i64 (h c)) ∧ Below W.heap.size W w') :
    Calls Try.prog 57 #[.int .i64 n, .func (.func 58) #[] #[.pointer (some q1), .pointer (some q2)]] w (MadePost h n w) := by
  have hmk := run_make_row' (P := Try.prog) 44 3 (.int .i64 0) 8 Try.underlying44 info_int rfl .i64 .i64 n (by omega) (by omega)
  have hstart := Filled.start h n w
  have hB0 : Below w.heap.size w (w.alloc (.cells (madeCells #[.int .i64 0] n) 3)) := (Below.refl _ _).alloc (Nat.le_refl _) _
  have HF := Lib.hid hf
  have HS := Lib.hid hstart
  have HB := Lib.hid hB0
  clear hf hstart hB0
  go_enter Try.func57, Try.ntmps57
  go_wp2
  go_loopw [6, 11] (fun _ i wr => ∃ k : Nat, k ≤ n ∧ i = .int .i64 k ∧ Filled h n k w.heap.size wr ∧ Below w.heap.size w wr ∧ w.heap.size < wr.heap.size) (fun _ i _ => n - (intOf i).toNat)
  case atStart => exact ⟨0, Nat.zero_le _, rfl, HS.out, HB.out, by simp⟩
  case round =>
    obtain ⟨k, hk, rfl, hFl, hB, hsz⟩ := hrel
    have HFl := Lib.hid hFl
    have HB := Lib.hid hB
    clear hFl hB
    by_cases hlt : k < n
    · have hcall := HF.out k wr hlt HB.out
      have HC := Lib.hid hcall
      clear hcall
      go_wp2_with fail
      (with_reducible refine HC.out.mono ?_)
      rintro e w1 ⟨rfl, hb1⟩
      have hF1 := HFl.out.below hsz hb1
      obtain ⟨v, hv⟩ := hF1.there k hlt
      have hfr := hF1.free k
      have hstep := hF1.step hlt
      have hsz1 : w.heap.size < w1.heap.size := Nat.lt_of_lt_of_le hsz hb1.size
      have hB1 := (HB.out.trans (hb1.mono (by omega))).setCell (p := ⟨w.heap.size, k, none⟩) (Nat.le_refl _) (.int .i64 (h k))
      have HST := Lib.hid hstep
      have HB1 := Lib.hid hB1
      clear hF1 hstep hB1 hb1
      go_wp2_with fail
      go_roundw
      case rel => exact ⟨k + 1, by omega, by go_num, HST.out, HB1.out, by simpa using hsz1⟩
      case measure => simp [intOf]; omega
    · have hkk : k = n := by omega
      have hi : Ints wr (some ⟨w.heap.size, 0, none⟩) ((List.range n).map fun i => h (i : Nat)) := by have := HFl.out; rw [hkk] at this; exact this.ints
      have HI := Lib.hid hi
      clear hi hkk
      go_wp2
      go_ret
      exact ⟨w.heap.size, n, rfl, HI.out, Nat.le_refl _, hsz, HB.out⟩

end Go.Proofs.Ytphfbjeaklpddaa
