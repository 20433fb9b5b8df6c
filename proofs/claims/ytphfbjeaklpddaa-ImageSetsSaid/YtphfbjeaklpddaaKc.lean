/-
  Layer 42, for the statements: an image in a variable; six.
-/
import Derived.Test.YtphfbjeaklpddaaKa
import Derived.Test.YtphfbjeaklpddaaKb
import Derived.OrdersHeld
import Derived.Deep.RegionHeld3
namespace Go.Proofs.Ytphfbjeaklpddaa
open Go.RowKit

/-- the variable b holds the image I -/
structure HasIm (W : World) (b : Nat) (I : Im) : Prop where
  lt : b < W.heap.size
  c0 : W.cell? ⟨b, 0, none⟩ = some (.int .i64 I.L.W)
  c1 : W.cell? ⟨b, 1, none⟩ = some (.int .i64 I.L.H)
  c2 : W.cell? ⟨b, 2, none⟩ = some (.int .i64 I.L.C)
  c3 : W.cell? ⟨b, 3, none⟩ = some (.int .i64 I.L.B)
  c4 : W.cell? ⟨b, 4, none⟩ = some (.bool I.L.pl)
  c5 : W.cell? ⟨b, 5, none⟩ = some (.int .i64 I.L.P)
  c6 : W.cell? ⟨b, 6, none⟩ = some (.string I.O)
  fz : ∀ o, W.frozen? ⟨b, o, none⟩ = false

theorem HasIm.below {W W' : World} {b : Nat} {I : Im} (h : HasIm W b I) (hb : Below W.heap.size W W') : HasIm W' b I :=
  ⟨Nat.lt_of_lt_of_le h.lt hb.size, (hb.cell (p := ⟨b, 0, none⟩) h.lt).trans h.c0, (hb.cell (p := ⟨b, 1, none⟩) h.lt).trans h.c1, (hb.cell (p := ⟨b, 2, none⟩) h.lt).trans h.c2,
   (hb.cell (p := ⟨b, 3, none⟩) h.lt).trans h.c3, (hb.cell (p := ⟨b, 4, none⟩) h.lt).trans h.c4, (hb.cell (p := ⟨b, 5, none⟩) h.lt).trans h.c5, (hb.cell (p := ⟨b, 6, none⟩) h.lt).trans h.c6, fun o => (hb.frozen (p := ⟨b, o, none⟩) h.lt).trans (h.fz o)⟩

theorem HasIm.set_other {W : World} {b : Nat} {I : Im} (h : HasIm W b I) {p : Addr} (hp : b ≠ p.block) (v : Value) : HasIm (W.setCell p v) b I := by
  have e : ∀ o, (W.setCell p v).cell? ⟨b, o, none⟩ = W.cell? ⟨b, o, none⟩ := fun o => World.cell?_setCell_other W p ⟨b, o, none⟩ v (by rintro rfl; exact hp rfl)
  exact ⟨by rw [World.size_setCell]; exact h.lt, (e 0).trans h.c0, (e 1).trans h.c1, (e 2).trans h.c2, (e 3).trans h.c3, (e 4).trans h.c4, (e 5).trans h.c5, (e 6).trans h.c6, fun o => (World.frozen?_setCell ..).trans (h.fz o)⟩

theorem Ints.set_other {W : World} {a : Option Addr} {xs : List Int} (h : Ints W a xs) {p : Addr} (hp : ∀ c off, a = some ⟨c, off, none⟩ → c ≠ p.block) (v : Value) : Ints (W.setCell p v) a xs := by
  intro hx
  obtain ⟨b, off, e, g⟩ := h hx
  refine ⟨b, off, e, fun i hi => ?_⟩
  rw [World.cell?_setCell_other W p ⟨b, off + i, none⟩ v (by rintro rfl; exact hp _ _ e rfl)]
  exact g i hi

theorem calls_gen {P : Program} {f : FuncId} {args : Array Value} {W : World} {Q : Ending → World → Prop} (h : ∀ V, V = W → Calls P f args V Q) : Calls P f args W Q := h W rfl

theorem wpAnyH_gen {P : Program} {ops : Array Oper} {Q : Exit → Act → World → Prop} {md : Region.Mode} {S : World → Prop} {fuel : Nat} {listed : Array Bool} {a : Act} {w : World} (h : ∀ V, V = w → wpAnyH P md ops Q S fuel listed a V) : wpAnyH P md ops Q S fuel listed a w := h w rfl

theorem wp_gen {P : Program} {c : Code} {Q : Exit → Act → World → Prop} {a : Act} {w : World} (h : ∀ V, V = w → c.wp P Q a V) : c.wp P Q a w := h w rfl

def sixI : Im := ⟨⟨2, 1, 3, 8, false, 4⟩, ⟨#[1, 2, 3, 4, 5, 6, 0, 0]⟩⟩

set_option maxHeartbeats 400000 in
theorem six_any (w : World) : Calls Try.prog 33 #[] w fun e w' => e = .returned (imgV 2 1 3 8 false 4 ⟨#[1, 2, 3, 4, 5, 6, 0, 0]⟩) ∧ Below w.heap.size w w' := by
  go_enter Try.func33, Try.ntmps33
  go_wp2
  refine bodyPost_ret (v := imgV 2 1 3 8 false 4 ⟨#[1, 2, 3, 4, 5, 6, 0, 0]⟩) ?_ rfl ?_
  · simp [results, Try.results33, go_sem]
  refine ⟨rfl, ?_⟩
  ((repeat (first | (with_reducible exact Below.refl _ _) | (with_reducible refine Below.setCell ?_ ?_ _) | (with_reducible refine Below.alloc ?_ ?_ _) | (with_reducible refine Below.drew ?_) | (with_reducible refine Below.trans ?_ (Below.mono (by assumption) ?_)))); all_goals ((try simp only [World.size_alloc, World.size_drew, World.size_setCell]); omega))

theorem six_stride : strR sixI = (8, 0) := by kernel_rfl
theorem six_get : getR sixI 1 0 = ([4, 5, 6], 0) := by kernel_rfl
theorem six_set : setR sixI 0 0 [7, 8, 9] = (⟨sixI.L, ⟨#[7, 8, 9, 4, 5, 6, 0, 0]⟩⟩, 0) := by kernel_rfl
theorem six_shape1 : shpR sixI 8 true 1 = (⟨⟨2, 1, 3, 8, true, 1⟩, ⟨#[1, 4, 2, 5, 3, 6]⟩⟩, 0) := by kernel_rfl
theorem six_shape2 : shpR sixI 16 false 1 = (⟨⟨2, 1, 3, 16, false, 1⟩, ⟨#[1, 1, 2, 2, 3, 3, 4, 4, 5, 5, 6, 6]⟩⟩, 0) := by kernel_rfl
theorem six_cut : cutR sixI 1 0 1 1 = (⟨⟨1, 1, 3, 8, false, 4⟩, ⟨#[4, 5, 6, 0]⟩⟩, 0) := by kernel_rfl
theorem six_get2 : getR sixI 2 0 = ([], 2) := by kernel_rfl
theorem six_make : makR ⟨65, 1, 1, 8, false, 1⟩ = (Im.z, 2) := by kernel_rfl
theorem six_check : chkR ⟨⟨2, 1, 3, 8, false, 4⟩, ⟨#[1, 2, 3, 4, 5, 6, 0, 1]⟩⟩ = 420 := by kernel_rfl

theorem strR_bad {I : Im} (h : I.vB = false) : strR I = (0, 420) := by simp [strR, h]
theorem chkR_bad {I : Im} (h : I.vB = false) : chkR I = 420 := by simp [chkR, h]
theorem getR_bad {I : Im} (h : I.vB = false) (x y : Int) : getR I x y = ([], 420) := by simp [getR, h]
theorem setR_bad {I : Im} (h : I.vB = false) (x y : Int) (xs : List Int) : setR I x y xs = (Im.z, 420) := by simp [setR, h]
theorem shpR_bad {I : Im} (h : I.vB = false) (b : Int) (pl : Bool) (p : Int) : shpR I b pl p = (Im.z, 420) := by simp [shpR, h]
theorem cutR_bad {I : Im} (h : I.vB = false) (x y a b : Int) : cutR I x y a b = (Im.z, 420) := by simp [cutR, h]
theorem pasR_bad {I : Im} (h : I.vB = false) (J : Im) (x y : Int) : pasR I J x y = (Im.z, 420) := by simp [pasR, h]
theorem pasR_bad2 {I : Im} (h : I.vB = false) (J : Im) (x y : Int) : pasR J I x y = (Im.z, 420) := by simp [pasR, h]

end Go.Proofs.Ytphfbjeaklpddaa
