/-
  Layer 42, the plain law: an image as a layout and a function of its samples.
-/
import Derived.Test.YtphfbjeaklpddaaKa
namespace Go.Proofs.Ytphfbjeaklpddaa
open Go.RowKit

theorem octS_size (n : Nat) (g : Int → Int) : (octS n g).size = n := by unfold octS; rw [strOfNums_size]; simp

theorem octAt_octS (n : Nat) (g : Int → Int) (p : Int) (p0 : 0 ≤ p) (p1 : p < n) (hg : 0 ≤ g p ∧ g p < 256) : octAt (octS n g) p = g p := by
  obtain ⟨q, rfl⟩ := Int.eq_ofNat_of_zero_le p0
  have hq : q < n := by omega
  unfold octAt octS
  rw [strOfNums_data]
  simp only [Int.toNat_natCast, List.map_map, List.getElem?_map, List.getElem?_range hq, Option.map_some, Function.comp, Option.getD_some]
  have : (UInt8.ofNat (g q).toNat).toNat = (g q).toNat := by
    rw [UInt8.toNat_ofNat']
    exact Nat.mod_eq_of_lt (by omega)
  rw [this]
  omega

theorem octS_congr (n : Nat) (g g' : Int → Int) (h : ∀ p : Int, 0 ≤ p → p < n → g p = g' p) : octS n g = octS n g' := by
  unfold octS
  congr 1
  refine List.map_congr_left fun p hp => ?_
  exact h p (by omega) (by have := List.mem_range.1 hp; omega)

theorem octS_octAt (O : ByteArray) : octS O.size (octAt O) = O := by
  unfold octS strOfNums
  rw [List.map_map]
  have : (List.range O.size).map ((fun n : Int => UInt8.ofNat n.toNat) ∘ fun p : Nat => octAt O p) = O.data.toList := by
    refine List.ext_getElem? fun k => ?_
    rw [List.getElem?_map]
    by_cases hk : k < O.size
    · have hk' : k < O.data.toList.length := by simpa using hk
      rw [List.getElem?_range hk, List.getElem?_eq_getElem hk']
      simp only [Option.map_some, Function.comp, octAt, Int.toNat_natCast, List.getElem?_eq_getElem hk', Option.getD_some]
      simp
    · rw [List.getElem?_eq_none (by rw [List.length_range]; omega), List.getElem?_eq_none (by rw [Array.length_toList]; exact Nat.le_of_not_lt hk)]
      rfl
  rw [this]

/-- the image of a function of samples -/
def imF (L : Lay) (f : Int → Int → Int → Int) : Im := ⟨L, octS L.len.toNat (L.octF f)⟩

/-- the samples are numbers that the image can hold -/
def Fits (L : Lay) (f : Int → Int → Int → Int) : Prop := ∀ x y c, L.dom x y c → 0 ≤ f x y c ∧ f x y c < if L.B = 8 then 256 else 65536

theorem imF_octAt (L : Lay) (hok : L.ok) (f : Int → Int → Int → Int) (p : Int) (p0 : 0 ≤ p) (p1 : p < L.len) : octAt (imF L f).O p = L.octF f p :=
  octAt_octS _ _ p p0 (by omega) (L.octF_range f p)

theorem imF_valid (L : Lay) (hok : L.ok) (f : Int → Int → Int → Int) : (imF L f).vB = true := by
  unfold Im.vB
  rw [Lay.vB_iff]
  refine ⟨hok, ?_, fun p p0 p1 hp => ?_⟩
  · show ((octS L.len.toNat (L.octF f)).size : Int) = L.len
    rw [octS_size]
    have := L.len_bd hok
    omega
  · have h := imF_octAt L hok f p p0 p1
    refine h.trans ?_
    unfold Lay.octF
    exact if_pos hp

theorem imF_fn (L : Lay) (hok : L.ok) (f : Int → Int → Int → Int) (hf : Fits L f) {x y c : Int} (hd : L.dom x y c) : L.fn (imF L f).O x y c = f x y c := by
  rw [← L.smp_octF hok hd f (hf x y c hd).1 (hf x y c hd).2]
  unfold Lay.fn Lay.smp
  obtain ⟨a0, a1, _⟩ := L.coords hok hd (d := 0) (by omega) (by have := L.n_cases hok; omega)
  rw [Int.add_zero] at a0 a1
  rcases L.n_cases hok with ⟨hn, hB⟩ | ⟨hn, hB⟩
  · rw [if_pos hB, if_pos hB, imF_octAt L hok f _ a0 a1]
  · obtain ⟨b0, b1, _⟩ := L.coords hok hd (d := 1) (by omega) (by omega)
    rw [if_neg (by omega), if_neg (by omega), imF_octAt L hok f _ a0 a1, imF_octAt L hok f _ b0 b1]

theorem imF_congr (L : Lay) (hok : L.ok) (f g : Int → Int → Int → Int) (h : ∀ x y c, L.dom x y c → f x y c = g x y c) : imF L f = imF L g := by
  unfold imF
  rw [octS_congr _ _ _ fun p p0 p1 => L.octF_congr hok h p0 (by omega)]

theorem Im.eq_imF (I : Im) (h : I.vB = true) : I = imF I.L (I.L.fn I.O) := by
  obtain ⟨L, O⟩ := I
  have hv := vB_yes h
  dsimp only at hv
  unfold imF
  dsimp only
  congr 1
  rw [← octS_octAt O, show O.size = L.len.toNat by have := hv.2.1; omega]
  refine octS_congr _ _ _ fun p p0 p1 => ?_
  have hl : L.len.toNat = O.size := by have := hv.2.1; omega
  rw [show octS L.len.toNat (octAt O) = O by rw [hl]; exact octS_octAt O]
  exact (L.octF_smp hv.1 (octAt O) (octAt_range O) hv.2.2 p0 (by omega)).symm

theorem Im.fits (I : Im) (h : I.vB = true) : Fits I.L (I.L.fn I.O) := fun x y c _ => I.L.smp_bd (vB_yes h).1 (octAt I.O) (octAt_range I.O) x y c

theorem Im.ok {I : Im} (h : I.vB = true) : I.L.ok := (vB_yes h).1

/-- images of the same layout whose samples are the same are the same -/
theorem Im.ext_fn (I J : Im) (hL : I.L = J.L) (hI : I.vB = true) (hJ : J.vB = true) (h : ∀ x y c, I.L.dom x y c → I.L.fn I.O x y c = J.L.fn J.O x y c) : I = J := by
  rw [I.eq_imF hI, J.eq_imF hJ, ← hL]
  exact imF_congr _ (Im.ok hI) _ _ fun x y c hd => by rw [h x y c hd, hL]

theorem putF_fits (L : Lay) (f : Int → Int → Int → Int) (hf : Fits L f) (x y : Int) (xs : List Int) (hx : ∀ v ∈ xs, 0 ≤ v ∧ v < if L.B = 8 then 256 else 65536) (k : Nat) (hk : k ≤ xs.length) : Fits L (putF f x y xs k) := by
  intro i j c hd
  unfold putF
  split
  · rename_i h
    have hc : c.toNat < xs.length := by omega
    rw [List.getElem?_eq_getElem hc, Option.getD_some]
    exact hx _ (List.getElem_mem hc)
  · exact hf i j c hd

end Go.Proofs.Ytphfbjeaklpddaa
