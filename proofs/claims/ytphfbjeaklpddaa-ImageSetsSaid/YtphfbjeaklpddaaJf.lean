/-
  Layer 42: Get, inside.
-/
import Derived.Test.YtphfbjeaklpddaaJe
namespace Go.Proofs.Ytphfbjeaklpddaa
open Go.RowKit

/-- the samples of an image -/
def Lay.fn (L : Lay) (O : ByteArray) : Int → Int → Int → Int := L.smp (octAt O)

theorem Opened.view {L : Lay} {O : ByteArray} (hv : L.valid O) {w : World} {base b b2 : Nat} (h : View w base b b2 L (octAt O)) : View w base b b2 L (L.octF (L.fn O)) :=
  h.congr fun _ p0 p1 => (L.octF_smp hv.1 (octAt O) (octAt_range O) hv.2.2 p0 p1).symm

set_option maxHeartbeats 400000 in
theorem get_bad (L : Lay) (O : ByteArray) (x y : Int) (w : World) (hn : ¬ L.valid O) :
    Calls Try.prog 19 #[L.img O, .int .i64 x, .int .i64 y] w fun e w' => e = .returned (.tuple #[.slice none 0 0, .int .i64 420]) ∧ Below w.heap.size w w' := by
  have HO := fun w => at_bad L O x y w hn
  unfold Lay.img at *
  have HO := Lib.hid HO
  go_enter Try.func19, Try.ntmps19
  go_wp2_with fail
  (with_reducible refine (HO.out _).mono ?_)
  rintro e w1 ⟨rfl, hb⟩
  go_wp2_with fail
  go_ret2
  refine ⟨rfl, ?_⟩
  ((repeat (first | (with_reducible exact Below.refl _ _) | (with_reducible refine Below.setCell ?_ ?_ _) | (with_reducible refine Below.alloc ?_ ?_ _) | (with_reducible refine Below.drew ?_) | (with_reducible refine Below.trans ?_ (Below.mono (by assumption) ?_)))); all_goals ((try simp only [World.size_alloc, World.size_drew, World.size_setCell]); omega))

set_option maxHeartbeats 400000 in
theorem get_none (L : Lay) (O : ByteArray) (x y : Int) (w : World) (hn : L.valid O) (ht : thereB L x y = false) :
    Calls Try.prog 19 #[L.img O, .int .i64 x, .int .i64 y] w fun e w' => e = .returned (.tuple #[.slice none 0 0, .int .i64 2]) ∧ Below w.heap.size w w' := by
  have HO := fun w => at_none L O x y w hn ht
  unfold Lay.img at *
  have HO := Lib.hid HO
  go_enter Try.func19, Try.ntmps19
  go_wp2_with fail
  (with_reducible refine (HO.out _).mono ?_)
  rintro e w1 ⟨rfl, hb⟩
  go_wp2_with fail
  go_ret2
  refine ⟨rfl, ?_⟩
  ((repeat (first | (with_reducible exact Below.refl _ _) | (with_reducible refine Below.setCell ?_ ?_ _) | (with_reducible refine Below.alloc ?_ ?_ _) | (with_reducible refine Below.drew ?_) | (with_reducible refine Below.trans ?_ (Below.mono (by assumption) ?_)))); all_goals ((try simp only [World.size_alloc, World.size_drew, World.size_setCell]); omega))

theorem thereB_iff (L : Lay) (x y : Int) : thereB L x y = true ↔ (0 ≤ x ∧ x < L.W) ∧ (0 ≤ y ∧ y < L.H) := by
  unfold thereB
  rw [Bool.and_eq_true, inB_iff, inB_iff]
  omega

/-- a new list, and no error -/
def GetPost (h : Int → Int) (n : Nat) (w : World) : Ending → World → Prop := fun e w' =>
  ∃ b cap : Nat, e = .returned (.tuple #[.slice (some ⟨b, 0, none⟩) n cap, .int .i64 0]) ∧ Ints w' (some ⟨b, 0, none⟩) ((List.range n).map fun i => h (i : Nat)) ∧ w.heap.size ≤ b ∧ b < w'.heap.size ∧ Below w.heap.size w w'

set_option maxHeartbeats 400000 in
theorem get_ok (L : Lay) (O : ByteArray) (x y : Int) (w : World) (hn : L.valid O) (ht : thereB L x y = true) :
    Calls Try.prog 19 #[L.img O, .int .i64 x, .int .i64 y] w (GetPost (fun c => L.fn O x y c) L.C.toNat w) := by
  have HO := fun w => at_ok L O x y w hn ht
  obtain ⟨⟨x0, xW⟩, ⟨y0, yH⟩⟩ := (thereB_iff L x y).1 ht
  unfold Lay.img at *
  have HO := Lib.hid HO
  go_enter Try.func19, Try.ntmps19
  go_wp2_with fail
  (with_reducible refine (HO.out _).mono ?_)
  rintro e w1 ⟨b, b2, rfl, hv, hb⟩
  have HP := Lib.hid (pixel_any L hn.1 _ b b2 (octAt O) (octAt_range O) x y w1 hv x0 xW y0 yH)
  clear hv
  go_wp2_with fail
  (with_reducible refine HP.out.mono ?_)
  rintro e w2 ⟨b3, cap, rfl, h1, h2, h3, h4⟩
  have H1 := Lib.hid h1
  have hz := hb.size
  simp only [World.size_alloc] at hz
  clear h1
  go_wp2_with fail
  go_ret2
  refine ⟨b3, cap, rfl, H1.out, by omega, h3, ?_⟩
  ((repeat (first | (with_reducible exact Below.refl _ _) | (with_reducible refine Below.setCell ?_ ?_ _) | (with_reducible refine Below.alloc ?_ ?_ _) | (with_reducible refine Below.drew ?_) | (with_reducible refine Below.trans ?_ (Below.mono (by assumption) ?_)))); all_goals ((try simp only [World.size_alloc, World.size_drew, World.size_setCell]); omega))

def insB (L : Lay) (x y wide high : Int) : Bool := inB x 0 (L.W - wide) && inB y 0 (L.H - high)

set_option maxHeartbeats 1000000 in
theorem inside_any (L : Lay) (hok : L.ok) (base b b2 : Nat) (g : Int → Int) (x y wide high : Int) (w : World) (hv : View w base b b2 L g) (a1 : 1 ≤ wide) (a2 : wide ≤ 64) (a3 : 1 ≤ high) (a4 : high ≤ 64) :
    Calls Try.prog 60 #[.pointer (some ⟨b, 0, none⟩), .int .i64 x, .int .i64 y, .int .i64 wide, .int .i64 high] w fun e w' => e = .returned (.bool (insB L x y wide high)) ∧ Below w.heap.size w w' := by
  have q1 := hok.w1
  have q2 := hok.w2
  have q3 := hok.h1
  have q4 := hok.h2
  have hl := hv.lt
  obtain ⟨v0, v1, v2, v3, v4, v5⟩ := hv.hd
  clear hv
  unfold insB
  cases hx : inB x 0 (L.W - wide)
  · go_enter Try.func60, Try.ntmps60
    go_wp2_with (first | (go_at_call 50; (with_reducible refine (between1 0 (L.W - wide) x _ _ _ ?_).mono ?_); go_simp; rintro e w2 ⟨rfl, hb2⟩; obtain ⟨hc2, hf2, hz2⟩ := after hb2; simp only [World.size_alloc] at hz2; have hx2 : b < w2.heap.size := (by omega); have hy2 : b ≤ w2.heap.size := (by omega)) | (go_at_call 50; (with_reducible refine (between1 0 (L.H - high) y _ _ _ ?_).mono ?_); go_simp; rintro e w3 ⟨rfl, hb3⟩; obtain ⟨hc3, hf3, hz3⟩ := after hb3; simp only [World.size_alloc] at hz3))
    go_ret
    refine ⟨rfl, ?_⟩
    ((repeat (first | (with_reducible exact Below.refl _ _) | (with_reducible refine Below.setCell ?_ ?_ _) | (with_reducible refine Below.alloc ?_ ?_ _) | (with_reducible refine Below.drew ?_) | (with_reducible refine Below.trans ?_ (Below.mono (by assumption) ?_)))); all_goals ((try simp only [World.size_alloc, World.size_drew, World.size_setCell]); omega))
  · go_enter Try.func60, Try.ntmps60
    go_wp2_with (first | (go_at_call 50; (with_reducible refine (between1 0 (L.W - wide) x _ _ _ ?_).mono ?_); go_simp; rintro e w2 ⟨rfl, hb2⟩; obtain ⟨hc2, hf2, hz2⟩ := after hb2; simp only [World.size_alloc] at hz2; have hx2 : b < w2.heap.size := (by omega); have hy2 : b ≤ w2.heap.size := (by omega)) | (go_at_call 50; (with_reducible refine (between1 0 (L.H - high) y _ _ _ ?_).mono ?_); go_simp; rintro e w3 ⟨rfl, hb3⟩; obtain ⟨hc3, hf3, hz3⟩ := after hb3; simp only [World.size_alloc] at hz3))
    go_ret
    refine ⟨rfl, ?_⟩
    ((repeat (first | (with_reducible exact Below.refl _ _) | (with_reducible refine Below.setCell ?_ ?_ _) | (with_reducible refine Below.alloc ?_ ?_ _) | (with_reducible refine Below.drew ?_) | (with_reducible refine Below.trans ?_ (Below.mono (by assumption) ?_)))); all_goals ((try simp only [World.size_alloc, World.size_drew, World.size_setCell]); omega))

end Go.Proofs.Ytphfbjeaklpddaa
