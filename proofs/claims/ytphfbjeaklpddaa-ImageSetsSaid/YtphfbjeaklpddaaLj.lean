/-
  Layer 42, the reference: Draft.Some, Draft.Image.
-/
import Derived.Test.YtphfbjeaklpddaaLi
namespace Go.Proofs.Ytphfbjeaklpddaa
open Go.RowKit

attribute [local go_sem] Oper.semAt_some

theorem some_any (D : Dr) (hD : D.ok) (n : Int) (n1 : 1 ≤ n) (n4 : n ≤ 4) (a : Option Addr) (cap : Nat) (w : World) (hvs : U16s w a D.vs) :
    Calls Try.prog 30 #[D.v a cap, .int .i64 n] w fun e w' => e = .returned (D.some n).v ∧ Below w.heap.size w w' := by
  cases h : D.deep
  · exact somefalse D hD h n n1 n4 a cap w hvs
  · exact sometrue D hD h n n1 n4 a cap w hvs

/-- the draft's own image -/
def Dr.im (D : Dr) : Im := D.some (1 + D.c % 4)

set_option maxHeartbeats 1000000 in
theorem image_any (D : Dr) (hD : D.ok) (a : Option Addr) (cap : Nat) (w : World) (hvs : U16s w a D.vs) :
    Calls Try.prog 24 #[D.v a cap] w fun e w' => e = .returned D.im.v ∧ Below w.heap.size w w' := by
  have a1 := hD.c0
  have a2 := hD.c1
  have hs : ∀ V, Below w.heap.size w V → Calls Try.prog 30 #[D.v a cap, .int .i64 (1 + D.c % 4)] V fun e w' => e = .returned (D.some (1 + D.c % 4)).v ∧ Below V.heap.size V w' :=
    fun V hV => some_any D hD _ (by omega) (by omega) a cap V (hvs.below hV)
  have HS := Lib.hid hs
  clear hs hvs hD
  have t1 : D.c.tmod 4 = D.c % 4 := Int.tmod_eq_emod_of_nonneg a1
  unfold Dr.im Im.v Lay.img at *
  unfold Dr.v at *
  go_enter Try.func24, Try.ntmps24
  go_wp2_with fail
  (with_reducible refine (HS.out _ ?_).mono ?_)
  · exact ((Below.refl _ _).alloc (Nat.le_refl _) _).alloc (by simp) _
  rintro e w1 ⟨rfl, hb⟩
  obtain ⟨hc, hf, hz⟩ := after hb
  simp only [World.size_alloc] at hz
  have hx : w.heap.size < w1.heap.size := by omega
  have hx' : w.heap.size + 1 < w1.heap.size := by omega
  have hq : w.heap.size < w.heap.size + 1 + 1 := by omega
  go_wp2_with fail
  refine bodyPost_ret (v := (D.some (1 + D.c % 4)).v) ?_ rfl ?_
  · simp [results, Try.results24, go_sem, hc, hx, hx', hq, Im.v, Lay.img]
  refine ⟨rfl, ?_⟩
  ((repeat (first | (with_reducible exact Below.refl _ _) | (with_reducible refine Below.setCell ?_ ?_ _) | (with_reducible refine Below.alloc ?_ ?_ _) | (with_reducible refine Below.drew ?_) | (with_reducible refine Below.trans ?_ (Below.mono (by assumption) ?_)))); all_goals ((try simp only [World.size_alloc, World.size_drew, World.size_setCell]); omega))

end Go.Proofs.Ytphfbjeaklpddaa
