/-
  Layer 42, the plain law: what the functions answer for images by functions.
-/
import Derived.Test.YtphfbjeaklpddaaLm
namespace Go.Proofs.Ytphfbjeaklpddaa
open Go.RowKit

theorem thereB_yes (L : Lay) (x y : Int) (x0 : 0 ≤ x) (x1 : x < L.W) (y0 : 0 ≤ y) (y1 : y < L.H) : thereB L x y = true := (thereB_iff L x y).2 ⟨⟨x0, x1⟩, ⟨y0, y1⟩⟩

theorem getR_ok (I : Im) (hv : I.vB = true) (x y : Int) (x0 : 0 ≤ x) (x1 : x < I.L.W) (y0 : 0 ≤ y) (y1 : y < I.L.H) : getR I x y = ((List.range I.L.C.toNat).map fun c => I.L.fn I.O x y (c : Nat), 0) := by
  unfold getR
  rw [if_pos hv, if_pos (thereB_yes I.L x y x0 x1 y0 y1)]

theorem getR_imF (L : Lay) (hok : L.ok) (f : Int → Int → Int → Int) (hf : Fits L f) (x y : Int) (x0 : 0 ≤ x) (x1 : x < L.W) (y0 : 0 ≤ y) (y1 : y < L.H) : getR (imF L f) x y = ((List.range L.C.toNat).map fun c => f x y (c : Nat), 0) := by
  rw [getR_ok (imF L f) (imF_valid L hok f) x y x0 x1 y0 y1]
  congr 1
  refine List.map_congr_left fun c hc => ?_
  have h : c < L.C.toNat := List.mem_range.1 hc
  exact imF_fn L hok f hf ⟨⟨x0, x1⟩, ⟨y0, y1⟩, ⟨by omega, by show ((c : Nat) : Int) < L.C; omega⟩⟩

theorem setR_ok (I : Im) (hv : I.vB = true) (x y : Int) (xs : List Int) (x0 : 0 ≤ x) (x1 : x < I.L.W) (y0 : 0 ≤ y) (y1 : y < I.L.H) (hl : (xs.length : Int) = I.L.C) (hr : ∀ v ∈ xs, 0 ≤ v ∧ v < if I.L.B = 8 then 256 else 65536) :
    setR I x y xs = (imF I.L (putF (I.L.fn I.O) x y xs xs.length), 0) := by
  have h : rngB I.L xs = true := by
    unfold rngB
    rw [List.all_eq_true]
    intro v hm
    rw [inB_iff]
    obtain ⟨a, b⟩ := hr v hm
    refine ⟨a, ?_⟩
    split at b
    · rename_i h8; rw [if_pos h8]; omega
    · rename_i h8; rw [if_neg h8]; omega
  unfold setR
  rw [if_pos hv, thereB_yes I.L x y x0 x1 y0 y1, h, hl]
  simp only [decide_true, Bool.and_self, if_true]
  rfl

theorem chkR_ok {I : Im} (hv : I.vB = true) : chkR I = 0 := by unfold chkR; rw [if_pos hv]

end Go.Proofs.Ytphfbjeaklpddaa
