/-
  Layer 42, the reference: drafts, the plain part.
-/
import Derived.Test.YtphfbjeaklpddaaLf
namespace Go.Proofs.Ytphfbjeaklpddaa
open Go.RowKit

/-- the slice's head a: the numbers xs lie there, of 16 bits each -/
def U16s (w : World) (a : Option Addr) (xs : List Int) : Prop :=
  xs ≠ [] → ∃ b off, a = some ⟨b, off, none⟩ ∧ ∀ i, i < xs.length → w.cell? ⟨b, off + i, none⟩ = some (.int .u16 (xs[i]?.getD 0))

theorem U16s.at {w : World} {a : Option Addr} {xs : List Int} (h : U16s w a xs) {k : Nat} (hk : k < xs.length) :
    ∃ b off x, a = some ⟨b, off, none⟩ ∧ w.cell? ⟨b, off + k, none⟩ = some (.int .u16 x) ∧ Hid (xs[k]? = some x) := by
  obtain ⟨b, off, e, g⟩ := h (by rintro rfl; simp at hk)
  exact ⟨b, off, xs[k], e, by have := g k hk; simpa [hk] using this, Lib.hid (by simp [hk])⟩

theorem U16s.below {w w' : World} {a : Option Addr} {xs : List Int} (h : U16s w a xs) (hb : Below w.heap.size w w') : U16s w' a xs := by
  intro hx
  obtain ⟨b, off, e, g⟩ := h hx
  refine ⟨b, off, e, fun i hi => ?_⟩
  have := g i hi
  rw [hb.cell (p := ⟨b, off + i, none⟩) (World.block_lt_of_cell? _ _ this)]
  exact this

/-- a draft -/
structure Dr where
  w : Int
  h : Int
  c : Int
  p : Int
  deep : Bool
  pl : Bool
  vs : List Int

structure Dr.ok (D : Dr) : Prop where
  w0 : 0 ≤ D.w
  w1 : D.w < 256
  h0 : 0 ≤ D.h
  h1 : D.h < 256
  c0 : 0 ≤ D.c
  c1 : D.c < 256
  p0 : 0 ≤ D.p
  p1 : D.p < 256
  vs : ∀ v ∈ D.vs, 0 ≤ v ∧ v < 65536
  len : D.vs.length ≤ maxLen

def Dr.v (D : Dr) (a : Option Addr) (cap : Nat) : Value := .agg #[.int .u8 D.w, .int .u8 D.h, .int .u8 D.c, .int .u8 D.p, .bool D.deep, .bool D.pl, .slice a D.vs.length cap]

/-- the variable b holds the draft -/
structure HasDr (W : World) (b : Nat) (D : Dr) (a : Option Addr) (cap : Nat) : Prop where
  lt : b < W.heap.size
  c0 : W.cell? ⟨b, 0, none⟩ = some (.int .u8 D.w)
  c1 : W.cell? ⟨b, 1, none⟩ = some (.int .u8 D.h)
  c2 : W.cell? ⟨b, 2, none⟩ = some (.int .u8 D.c)
  c3 : W.cell? ⟨b, 3, none⟩ = some (.int .u8 D.p)
  c4 : W.cell? ⟨b, 4, none⟩ = some (.bool D.deep)
  c5 : W.cell? ⟨b, 5, none⟩ = some (.bool D.pl)
  c6 : W.cell? ⟨b, 6, none⟩ = some (.slice a D.vs.length cap)
  fz : ∀ o, W.frozen? ⟨b, o, none⟩ = false

theorem HasDr.below {W W' : World} {b : Nat} {D : Dr} {a : Option Addr} {cap : Nat} (h : HasDr W b D a cap) (hb : Below W.heap.size W W') : HasDr W' b D a cap :=
  ⟨Nat.lt_of_lt_of_le h.lt hb.size, (hb.cell (p := ⟨b, 0, none⟩) h.lt).trans h.c0, (hb.cell (p := ⟨b, 1, none⟩) h.lt).trans h.c1, (hb.cell (p := ⟨b, 2, none⟩) h.lt).trans h.c2,
   (hb.cell (p := ⟨b, 3, none⟩) h.lt).trans h.c3, (hb.cell (p := ⟨b, 4, none⟩) h.lt).trans h.c4, (hb.cell (p := ⟨b, 5, none⟩) h.lt).trans h.c5, (hb.cell (p := ⟨b, 6, none⟩) h.lt).trans h.c6,
   fun o => (hb.frozen (p := ⟨b, o, none⟩) h.lt).trans (h.fz o)⟩

theorem HasDr.set_other {W : World} {b : Nat} {D : Dr} {a : Option Addr} {cap : Nat} (h : HasDr W b D a cap) {p : Addr} (hp : b ≠ p.block) (v : Value) : HasDr (W.setCell p v) b D a cap := by
  have e : ∀ o, (W.setCell p v).cell? ⟨b, o, none⟩ = W.cell? ⟨b, o, none⟩ := fun o => World.cell?_setCell_other W p ⟨b, o, none⟩ v (by rintro rfl; exact hp rfl)
  exact ⟨by rw [World.size_setCell]; exact h.lt, (e 0).trans h.c0, (e 1).trans h.c1, (e 2).trans h.c2, (e 3).trans h.c3, (e 4).trans h.c4, (e 5).trans h.c5, (e 6).trans h.c6, fun o => (World.frozen?_setCell ..).trans (h.fz o)⟩

theorem HasDr.grownBy {W W' : World} {b : Nat} {D : Dr} {a : Option Addr} {cap : Nat} {row : Option Nat} (h : HasDr W b D a cap) (hg : W.grownBy W' row) (hne : row ≠ some b) : HasDr W' b D a cap := by
  have e : W'.heap[b]? = W.heap[b]? := hg.block b h.lt (fun e => hne e.symm)
  have c : ∀ o, W'.cell? ⟨b, o, none⟩ = W.cell? ⟨b, o, none⟩ := fun o => World.cell?_of_block (a := ⟨b, o, none⟩) e
  have f : ∀ o, W'.frozen? ⟨b, o, none⟩ = W.frozen? ⟨b, o, none⟩ := fun o => World.frozen?_of_block (a := ⟨b, o, none⟩) e
  exact ⟨Nat.lt_of_lt_of_le h.lt hg.size, (c 0).trans h.c0, (c 1).trans h.c1, (c 2).trans h.c2, (c 3).trans h.c3, (c 4).trans h.c4, (c 5).trans h.c5, (c 6).trans h.c6, fun o => (f o).trans (h.fz o)⟩

def padOf (p : Int) : Int := if p % 4 = 0 then 1 else if p % 4 = 1 then 2 else if p % 4 = 2 then 4 else 8
def Dr.B (D : Dr) : Int := if D.deep then 16 else 8
def Dr.most (D : Dr) : Int := if D.deep then 65536 else 256
/-- the layout of a draft's image with n channels -/
def Dr.lay (D : Dr) (n : Int) : Lay := ⟨1 + D.w % 6, 1 + D.h % 6, n, D.B, D.pl, padOf D.p⟩
/-- its value number i -/
def Dr.val (D : Dr) (i : Nat) : Int := if D.vs = [] then 0 else D.vs[i % D.vs.length]?.getD 0 % D.most
/-- its samples -/
def Dr.fn (D : Dr) (n : Int) (x y c : Int) : Int := D.val ((y * (1 + D.w % 6) + x) * n + c).toNat
/-- its image with n channels -/
def Dr.some (D : Dr) (n : Int) : Im := imF (D.lay n) (D.fn n)

theorem Dr.lay_ok (D : Dr) (h : D.ok) (n : Int) (n1 : 1 ≤ n) (n4 : n ≤ 4) : (D.lay n).ok := by
  have a1 := h.w0; have a2 := h.h0; have a3 := h.p0
  have hW : 1 ≤ 1 + D.w % 6 ∧ 1 + D.w % 6 ≤ 6 := by omega
  have hH : 1 ≤ 1 + D.h % 6 ∧ 1 + D.h % 6 ≤ 6 := by omega
  obtain ⟨m1, m2⟩ := mul_bd (a := 1 + D.w % 6) (b := 1 + D.h % 6) (A := 6) (B := 6) (by omega) hW.2 (by omega) hH.2
  obtain ⟨k1, k2⟩ := mul_bd (a := (1 + D.w % 6) * (1 + D.h % 6)) (b := n) (A := 36) (B := 4) m1 (by omega) (by omega) n4
  refine ⟨hW.1, by show 1 + D.w % 6 ≤ 64; omega, hH.1, by show 1 + D.h % 6 ≤ 64; omega, n1, n4, ?_, ?_, by show (1 + D.w % 6) * (1 + D.h % 6) * n ≤ 4096; omega⟩
  · show D.B = 8 ∨ D.B = 16
    unfold Dr.B
    split <;> simp
  · show padOf D.p = 1 ∨ padOf D.p = 2 ∨ padOf D.p = 4 ∨ padOf D.p = 8
    unfold padOf
    split
    · simp
    · split
      · simp
      · split <;> simp

theorem Dr.val_bd (D : Dr) (h : D.ok) (i : Nat) : 0 ≤ D.val i ∧ D.val i < D.most := by
  have hm : 0 < D.most := by unfold Dr.most; split <;> omega
  unfold Dr.val
  split
  · exact ⟨Int.le_refl _, hm⟩
  · exact ⟨Int.emod_nonneg _ (by omega), Int.emod_lt_of_pos _ hm⟩

theorem Dr.fits (D : Dr) (h : D.ok) (n : Int) : Fits (D.lay n) (D.fn n) := by
  intro x y c _
  have := D.val_bd h ((y * (1 + D.w % 6) + x) * n + c).toNat
  unfold Dr.fn
  refine ⟨this.1, Int.lt_of_lt_of_le this.2 ?_⟩
  show D.most ≤ if D.B = 8 then 256 else 65536
  unfold Dr.most Dr.B
  cases D.deep <;> simp

theorem Dr.some_valid (D : Dr) (h : D.ok) (n : Int) (n1 : 1 ≤ n) (n4 : n ≤ 4) : (D.some n).vB = true := imF_valid _ (D.lay_ok h n n1 n4) _

end Go.Proofs.Ytphfbjeaklpddaa
