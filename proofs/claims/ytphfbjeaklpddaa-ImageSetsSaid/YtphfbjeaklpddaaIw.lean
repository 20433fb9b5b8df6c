import Derived.Test.YtphfbjeaklpddaaIq
import Derived.BigRegion
import Derived.RegionTactic
import Derived.StillTailTactics
namespace Go.Proofs.Ytphfbjeaklpddaa
open Go.RowKit

set_option maxHeartbeats 400000 in
theorem write8_any (bx b b2 len cap : Nat) (p n : Int) (w : World) (old : Value)
    (hx : w.cell? ⟨bx, 0, none⟩ = some (.pointer (some ⟨b, 0, none⟩))) (hs : w.cell? ⟨b, 7, none⟩ = some (.slice (some ⟨b2, 0, none⟩) len cap))
    (p0 : 0 ≤ p) (p1 : p < len) (hc : w.cell? ⟨b2, p.toNat, none⟩ = some old) (hf : w.frozen? ⟨b2, p.toNat, none⟩ = false) :
    Calls Try.prog 75 #[.int .i64 p, .int .i64 n, .pointer (some ⟨bx, 0, none⟩)] w fun e w' => e = .returned (.tuple #[]) ∧ w' = w.setCell ⟨b2, p.toNat, none⟩ (.int .u8 (n % 256)) := by
  go_enter Try.func75, Try.ntmps75
  go_wp2
  go_end0
  exact ⟨rfl, rfl⟩

set_option maxRecDepth 100000 in
set_option maxHeartbeats 400000 in
theorem write16_any (bx b b2 len cap : Nat) (p n : Int) (w : World) (old old2 : Value)
    (hx : w.cell? ⟨bx, 0, none⟩ = some (.pointer (some ⟨b, 0, none⟩))) (hs : w.cell? ⟨b, 7, none⟩ = some (.slice (some ⟨b2, 0, none⟩) len cap))
    (p0 : 0 ≤ p) (p1 : p + 1 < len) (hl : (len : Int) ≤ 133120) (hc : w.cell? ⟨b2, p.toNat, none⟩ = some old) (hf : w.frozen? ⟨b2, p.toNat, none⟩ = false)
    (hc2 : w.cell? ⟨b2, (p + 1).toNat, none⟩ = some old2) (hf2 : w.frozen? ⟨b2, (p + 1).toNat, none⟩ = false) :
    Calls Try.prog 76 #[.int .i64 p, .int .i64 n, .pointer (some ⟨bx, 0, none⟩)] w fun e w' => e = .returned (.tuple #[]) ∧ w' = ((w.setCell ⟨b2, p.toNat, none⟩ (.int .u8 (n / 256 % 256))).setCell ⟨b2, (p + 1).toNat, none⟩ (.int .u8 (n % 256))).drew := by
  go_enter Try.func76, Try.ntmps76
  go_wp2
  go_region
  go_end0
  exact ⟨rfl, rfl⟩

/-! ### block b may have turned, nothing else of what was there -/
structure Upd (b : Nat) (w w' : World) : Prop where
  os : w'.os = w.os
  tape : w'.tape = w.tape
  output : w'.output = w.output
  size : w.heap.size ≤ w'.heap.size
  block : ∀ k, k < w.heap.size → k ≠ b → w'.heap[k]? = w.heap[k]?

theorem Upd.refl (b : Nat) (w : World) : Upd b w w := ⟨rfl, rfl, rfl, Nat.le_refl _, fun _ _ _ => rfl⟩
theorem Upd.trans {b : Nat} {u v w : World} (h : Upd b u v) (k : Upd b v w) : Upd b u w :=
  ⟨k.os.trans h.os, k.tape.trans h.tape, k.output.trans h.output, Nat.le_trans h.size k.size, fun i hi hne => (k.block i (Nat.lt_of_lt_of_le hi h.size) hne).trans (h.block i hi hne)⟩
theorem Upd.of_below {b : Nat} {w w' : World} (h : Below w.heap.size w w') : Upd b w w' := ⟨h.os, h.tape, h.output, h.size, fun k hk _ => h.block k hk⟩
theorem Upd.setCell (b o : Nat) (w : World) (v : Value) : Upd b w (w.setCell ⟨b, o, none⟩ v) := ⟨rfl, rfl, rfl, by simp, fun k _ hne => Below.heap_setCell w ⟨b, o, none⟩ v k hne⟩
theorem Upd.drew (b : Nat) (w : World) : Upd b w w.drew := ⟨rfl, rfl, rfl, Nat.le_refl _, fun _ _ _ => rfl⟩
theorem Upd.cell {b : Nat} {w w' : World} (h : Upd b w w') {p : Addr} (hp : p.block < w.heap.size) (hne : p.block ≠ b) : w'.cell? p = w.cell? p := World.cell?_of_block (w := w) (h.block p.block hp hne)
theorem Upd.frozen {b : Nat} {w w' : World} (h : Upd b w w') {p : Addr} (hp : p.block < w.heap.size) (hne : p.block ≠ b) : w'.frozen? p = w.frozen? p := World.frozen?_of_block (w := w) (h.block p.block hp hne)
theorem Upd.below {b B : Nat} {w w' : World} (h : Upd b w w') (hb : B ≤ b) (hB : B ≤ w.heap.size) : Below B w w' :=
  ⟨h.os, h.tape, h.output, h.size, fun k hk => h.block k (by omega) (by omega)⟩

/-- .. and the same list of numbers elsewhere -/
theorem Ints.upd {w w' : World} {a : Option Addr} {xs : List Int} {b : Nat} (h : Ints w a xs) (hb : Upd b w w') (hne : ∀ c off, a = some ⟨c, off, none⟩ → c ≠ b) : Ints w' a xs := by
  intro hx
  obtain ⟨c, off, e, g⟩ := h hx
  refine ⟨c, off, e, fun i hi => ?_⟩
  have := g i hi
  rw [hb.cell (p := ⟨c, off + i, none⟩) (World.block_lt_of_cell? _ _ this) (hne c off e)]
  exact this

/-! ### the view's octets, written -/
theorem View.lt {w : World} {base b b2 : Nat} {L : Lay} {g : Int → Int} (h : View w base b b2 L g) : b < w.heap.size := World.block_lt_of_cell? _ _ h.hd.c0

theorem View.lt2 {w : World} {base b b2 : Nat} {L : Lay} {g : Int → Int} (h : View w base b b2 L g) (hok : L.ok) : b2 < w.heap.size := by
  have := (h.bt 0 (by have := L.len_bd hok; omega)).1
  exact World.block_lt_of_cell? _ _ this

theorem View.of {w w' : World} {base b b2 : Nat} {L : Lay} {g g' : Int → Int} (h : View w base b b2 L g) (hc : ∀ o, w'.cell? ⟨b, o, none⟩ = w.cell? ⟨b, o, none⟩) (hf : ∀ o, w'.frozen? ⟨b, o, none⟩ = w.frozen? ⟨b, o, none⟩)
    (hb : ∀ p : Nat, p < L.len.toNat → w'.cell? ⟨b2, p, none⟩ = some (.int .u8 (g' p)) ∧ w'.frozen? ⟨b2, p, none⟩ = false) : View w' base b b2 L g' :=
  ⟨h.hd.of_cells hc, fun o ho => (hf o).trans (h.fz o ho), by obtain ⟨s, hs⟩ := h.o6; exact ⟨s, (hc 6).trans hs⟩, by obtain ⟨c, hs⟩ := h.sl; exact ⟨c, (hc 7).trans hs⟩, hb, h.ne, h.b1, h.b2⟩

theorem View.below {w w' : World} {base b b2 : Nat} {L : Lay} {g : Int → Int} (h : View w base b b2 L g) (hok : L.ok) (hb : Below w.heap.size w w') : View w' base b b2 L g :=
  h.of (fun o => hb.cell (p := ⟨b, o, none⟩) h.lt) (fun o => hb.frozen (p := ⟨b, o, none⟩) h.lt)
    fun p hp => by rw [hb.cell (p := ⟨b2, p, none⟩) (h.lt2 hok), hb.frozen (p := ⟨b2, p, none⟩) (h.lt2 hok)]; exact h.bt p hp

/-- another view, its octets elsewhere, while block c turns -/
theorem View.upd {w w' : World} {base b b2 c : Nat} {L : Lay} {g : Int → Int} (h : View w base b b2 L g) (hok : L.ok) (hb : Upd c w w') (h1 : b ≠ c) (h2 : b2 ≠ c) : View w' base b b2 L g :=
  h.of (fun o => hb.cell (p := ⟨b, o, none⟩) h.lt h1) (fun o => hb.frozen (p := ⟨b, o, none⟩) h.lt h1)
    fun p hp => by rw [hb.cell (p := ⟨b2, p, none⟩) (h.lt2 hok) h2, hb.frozen (p := ⟨b2, p, none⟩) (h.lt2 hok) h2]; exact h.bt p hp

theorem View.congr {w : World} {base b b2 : Nat} {L : Lay} {g g' : Int → Int} (h : View w base b b2 L g) (hg : ∀ p, 0 ≤ p → p < L.len → g p = g' p) : View w base b b2 L g' :=
  h.of (fun _ => rfl) (fun _ => rfl) fun p hp => by rw [← hg p (by omega) (by omega)]; exact h.bt p hp

theorem cell_set_ne {w : World} {b b2 q o : Nat} {v : Value} (h : b ≠ b2) : (w.setCell ⟨b2, q, none⟩ v).cell? ⟨b, o, none⟩ = w.cell? ⟨b, o, none⟩ :=
  World.cell?_setCell_other w ⟨b2, q, none⟩ ⟨b, o, none⟩ v (by intro e; cases e; exact h rfl)

theorem View.set8 {w : World} {base b b2 : Nat} {L : Lay} {f : Int → Int → Int → Int} (h : View w base b b2 L (L.octF f)) (hok : L.ok) (hB : L.n = 1) {x y c : Int} (hd : L.dom x y c) (v : Int) :
    View (w.setCell ⟨b2, (L.plc x y c).toNat, none⟩ (.int .u8 (v % 256))) base b b2 L (L.octF (Lay.upd f x y c v)) := by
  obtain ⟨p0, p1, _⟩ := L.coords hok hd (d := 0) (by omega) (by omega)
  rw [Int.add_zero] at p0 p1
  refine h.of (fun o => cell_set_ne h.ne) (fun o => by rw [World.frozen?_setCell]) fun q hq => ⟨?_, by rw [World.frozen?_setCell]; exact (h.bt q hq).2⟩
  rw [L.octF_upd hok hd f (by omega) (by omega)]
  by_cases e : q = (L.plc x y c).toNat
  · subst e
    rw [World.cell?_setCell_same _ _ _ (h.bt _ hq).1, if_pos (by omega)]
    unfold Lay.byt
    rw [if_neg (by omega)]
  · rw [World.cell?_setCell_other _ _ _ _ (by intro e'; cases e'; exact e rfl), if_neg (by omega)]
    exact (h.bt q hq).1

theorem View.set16 {w : World} {base b b2 : Nat} {L : Lay} {f : Int → Int → Int → Int} (h : View w base b b2 L (L.octF f)) (hok : L.ok) (hB : L.n = 2) {x y c : Int} (hd : L.dom x y c) (v : Int) :
    View ((w.setCell ⟨b2, (L.plc x y c).toNat, none⟩ (.int .u8 (v / 256 % 256))).setCell ⟨b2, (L.plc x y c + 1).toNat, none⟩ (.int .u8 (v % 256))).drew base b b2 L (L.octF (Lay.upd f x y c v)) := by
  obtain ⟨p0, p1, _⟩ := L.coords hok hd (d := 0) (by omega) (by omega)
  obtain ⟨q0, q1, _⟩ := L.coords hok hd (d := 1) (by omega) (by omega)
  rw [Int.add_zero] at p0 p1
  refine h.of (fun o => (cell_set_ne h.ne).trans (cell_set_ne h.ne)) (fun o => by rw [World.frozen?_drew, World.frozen?_setCell, World.frozen?_setCell]) fun q hq => ⟨?_, by rw [World.frozen?_drew, World.frozen?_setCell, World.frozen?_setCell]; exact (h.bt q hq).2⟩
  rw [L.octF_upd hok hd f (by omega) (by omega), World.cell?_drew]
  by_cases e : q = (L.plc x y c + 1).toNat
  · subst e
    have h1 : (w.setCell ⟨b2, (L.plc x y c).toNat, none⟩ (.int .u8 (v / 256 % 256))).cell? ⟨b2, (L.plc x y c + 1).toNat, none⟩ = _ := (World.cell?_setCell_other _ _ _ _ (by intro e'; have e2 := congrArg Addr.off e'; dsimp only at e2; omega)).trans (h.bt _ hq).1
    rw [World.cell?_setCell_same _ _ _ h1, if_pos (by omega)]
    unfold Lay.byt
    rw [if_neg (by omega)]
  · rw [World.cell?_setCell_other _ _ _ _ (by intro e'; cases e'; exact e rfl)]
    by_cases e2 : q = (L.plc x y c).toNat
    · subst e2
      rw [World.cell?_setCell_same _ _ _ (h.bt _ hq).1, if_pos (by omega)]
      unfold Lay.byt
      rw [if_pos ⟨hB, by omega⟩]
    · rw [World.cell?_setCell_other _ _ _ _ (by intro e'; cases e'; exact e2 rfl), if_neg (by omega)]
      exact (h.bt q hq).1

/-- the pixel at x, y, its first k samples changed -/
def putF (f : Int → Int → Int → Int) (x y : Int) (xs : List Int) (k : Nat) : Int → Int → Int → Int :=
  fun i j c => if i = x ∧ j = y ∧ 0 ≤ c ∧ c < k then xs[c.toNat]?.getD 0 else f i j c

theorem putF_zero (f : Int → Int → Int → Int) (x y : Int) (xs : List Int) : putF f x y xs 0 = f := by
  funext i j c
  unfold putF
  rw [if_neg (by omega)]

theorem putF_succ (f : Int → Int → Int → Int) (x y : Int) (xs : List Int) (k : Nat) (v : Int) (hv : xs[k]? = some v) : Lay.upd (putF f x y xs k) x y k v = putF f x y xs (k + 1) := by
  funext i j c
  unfold Lay.upd putF
  by_cases e : i = x ∧ j = y
  · obtain ⟨rfl, rfl⟩ := e
    by_cases ec : c = k
    · subst ec
      rw [if_pos ⟨rfl, rfl, rfl⟩, if_pos ⟨rfl, rfl, by omega, by omega⟩, Int.toNat_natCast, hv]; rfl
    · rw [if_neg (by rintro ⟨_, _, h⟩; exact ec h)]
      by_cases e2 : 0 ≤ c ∧ c < k
      · rw [if_pos ⟨rfl, rfl, e2.1, e2.2⟩, if_pos ⟨rfl, rfl, e2.1, by omega⟩]
      · rw [if_neg (by omega), if_neg (by omega)]
  · rw [if_neg (by omega), if_neg (by omega), if_neg (by omega)]

end Go.Proofs.Ytphfbjeaklpddaa
