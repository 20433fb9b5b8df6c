/-
  Layer 42: Check, Stride, Make, at, Get.
-/
import Derived.Test.YtphfbjeaklpddaaJb
namespace Go.Proofs.Ytphfbjeaklpddaa
open Go.RowKit

theorem open_bad (L : Lay) (O : ByteArray) (w : World) (hn : ¬ L.valid O) :
    Calls Try.prog 37 #[L.img O] w fun e w' => e = .returned (.tuple #[.pointer none, .int .i64 420]) ∧ Below w.heap.size w w' := by
  by_cases h1 : shpB L.W L.H L.C L.B L.P = true
  · have hok : L.ok := (shpB_iff _ _ _ _ _).1 h1
    by_cases h2 : (O.size : Int) = L.len
    · have h3 : ∃ p0 : Nat, (p0 : Int) < L.len ∧ L.pad p0 ∧ octAt O p0 ≠ 0 := by
        apply Classical.byContradiction
        intro h4
        refine hn ⟨hok, h2, fun p p0 p1 hp => Classical.byContradiction fun h5 => h4 ⟨p.toNat, ?_, ?_, ?_⟩⟩
        · omega
        · rw [Int.toNat_of_nonneg p0]; exact hp
        · rw [Int.toNat_of_nonneg p0]; exact h5
      obtain ⟨p0, hp⟩ := h3
      exact open_bad3 L O w hok h2 p0 hp
    · exact open_bad2 L O w hok h2
  · exact open_bad1 L O w (by simpa using h1)

theorem open_ok (L : Lay) (O : ByteArray) (w : World) (hv : L.valid O) : Calls Try.prog 37 #[L.img O] w (Opened L O w) :=
  open_good L O w hv.1 hv.2.1 hv.2.2

set_option maxHeartbeats 400000 in
theorem check_bad (L : Lay) (O : ByteArray) (w : World) (hn : ¬ L.valid O) :
    Calls Try.prog 15 #[L.img O] w fun e w' => e = .returned (.int .i64 420) ∧ Below w.heap.size w w' := by
  have HO := fun w => open_bad L O w hn
  unfold Lay.img at *
  have HO := Lib.hid HO
  go_enter Try.func15, Try.ntmps15
  go_wp2_with fail
  (with_reducible refine (HO.out _).mono ?_)
  rintro e w1 ⟨rfl, hb⟩
  go_wp2_with fail
  go_ret
  refine ⟨rfl, ?_⟩
  repeat (first | (with_reducible exact Below.refl _ _) | (with_reducible refine Below.setCell ?_ ?_ _) | (with_reducible refine Below.alloc ?_ ?_ _) | (with_reducible refine Below.drew ?_) | (with_reducible refine Below.trans ?_ (Below.mono (by assumption) ?_)))
  all_goals ((try simp only [World.size_alloc, World.size_drew, World.size_setCell]); omega)

set_option maxHeartbeats 400000 in
theorem check_ok (L : Lay) (O : ByteArray) (w : World) (hn : L.valid O) :
    Calls Try.prog 15 #[L.img O] w fun e w' => e = .returned (.int .i64 0) ∧ Below w.heap.size w w' := by
  have HO := fun w => open_ok L O w hn
  unfold Lay.img at *
  have HO := Lib.hid HO
  go_enter Try.func15, Try.ntmps15
  go_wp2_with fail
  (with_reducible refine (HO.out _).mono ?_)
  rintro e w1 ⟨b, b2, rfl, hv, hb⟩
  go_wp2_with fail
  go_ret
  refine ⟨rfl, ?_⟩
  repeat (first | (with_reducible exact Below.refl _ _) | (with_reducible refine Below.setCell ?_ ?_ _) | (with_reducible refine Below.alloc ?_ ?_ _) | (with_reducible refine Below.drew ?_) | (with_reducible refine Below.trans ?_ (Below.mono (by assumption) ?_)))
  all_goals ((try simp only [World.size_alloc, World.size_drew, World.size_setCell]); omega)

set_option maxHeartbeats 400000 in
theorem stride_bad (L : Lay) (O : ByteArray) (w : World) (hn : ¬ L.valid O) :
    Calls Try.prog 13 #[L.img O] w fun e w' => e = .returned (.tuple #[.int .i64 0, .int .i64 420]) ∧ Below w.heap.size w w' := by
  have HO := fun w => open_bad L O w hn
  unfold Lay.img at *
  have HO := Lib.hid HO
  go_enter Try.func13, Try.ntmps13
  go_wp2_with fail
  (with_reducible refine (HO.out _).mono ?_)
  rintro e w1 ⟨rfl, hb⟩
  go_wp2_with fail
  go_ret2
  refine ⟨rfl, ?_⟩
  repeat (first | (with_reducible exact Below.refl _ _) | (with_reducible refine Below.setCell ?_ ?_ _) | (with_reducible refine Below.alloc ?_ ?_ _) | (with_reducible refine Below.drew ?_) | (with_reducible refine Below.trans ?_ (Below.mono (by assumption) ?_)))
  all_goals ((try simp only [World.size_alloc, World.size_drew, World.size_setCell]); omega)

set_option maxHeartbeats 400000 in
theorem stride_ok (L : Lay) (O : ByteArray) (w : World) (hn : L.valid O) :
    Calls Try.prog 13 #[L.img O] w fun e w' => e = .returned (.tuple #[.int .i64 L.str, .int .i64 0]) ∧ Below w.heap.size w w' := by
  have HO := fun w => open_ok L O w hn
  unfold Lay.img at *
  have HO := Lib.hid HO
  go_enter Try.func13, Try.ntmps13
  go_wp2_with fail
  (with_reducible refine (HO.out _).mono ?_)
  rintro e w1 ⟨b, b2, rfl, hv, hb⟩
  have HC := Lib.hid (vstride_any b L.W L.H L.C L.B L.pl L.P w1 hv.hd hn.1)
  clear hv
  go_wp2_with fail
  (with_reducible refine HC.out.mono ?_)
  rintro e w2 ⟨rfl, hb2⟩
  have hz := hb.size
  have hz2 := hb2.size
  simp only [World.size_alloc] at hz
  go_wp2_with fail
  go_ret2
  refine ⟨rfl, ?_⟩
  repeat (first | (with_reducible exact Below.refl _ _) | (with_reducible refine Below.setCell ?_ ?_ _) | (with_reducible refine Below.alloc ?_ ?_ _) | (with_reducible refine Below.drew ?_) | (with_reducible refine Below.trans ?_ (Below.mono (by assumption) ?_)))
  all_goals ((try simp only [World.size_alloc, World.size_drew, World.size_setCell]); omega)

end Go.Proofs.Ytphfbjeaklpddaa
