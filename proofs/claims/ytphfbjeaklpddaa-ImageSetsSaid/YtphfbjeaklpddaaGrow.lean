/-
  The laws of this family that speak of no program's functions: worlds that have only grown ('Below'), and regions that draw their order whose operations read below and make new memory alone.
-/
import Derived.WalkKit
import Derived.WalkSpells
import Derived.WalkLawsBesides
import Derived.BigQuiet
import Derived.LoopTactic
import Derived.Lib.Hide
import Derived.WideMake
namespace Go.Proofs.Ytphfbjeaklpddaa
open Go.RowKit

open Classical in
/-- x, if it has only grown out of w; else w -/
noncomputable def grow (w x : World) : World := if Below w.heap.size w x then x else w

theorem grow_below (w x : World) : Below w.heap.size w (grow w x) := by
  unfold grow; split
  · assumption
  · exact Below.refl _ _

theorem below_grow {w W : World} (h : Below w.heap.size w W) : ∃ x, W = grow w x := ⟨W, by unfold grow; rw [if_pos h]⟩

@[go_sem] theorem cell_grow (w x : World) (b o : Nat) (h : b < w.heap.size) : (grow w x).cell? ⟨b, o, none⟩ = w.cell? ⟨b, o, none⟩ :=
  (grow_below w x).cell (p := ⟨b, o, none⟩) h

@[go_sem] theorem frozen_grow (w x : World) (b o : Nat) (h : b < w.heap.size) : (grow w x).frozen? ⟨b, o, none⟩ = w.frozen? ⟨b, o, none⟩ :=
  (grow_below w x).frozen (p := ⟨b, o, none⟩) h

theorem grow_size (w x : World) : w.heap.size ≤ (grow w x).heap.size := (grow_below w x).size

/-- a callee's contract, met in a grown world -/
theorem calls_grow {P : Program} {f : FuncId} {args : Array Value} {w x : World} {v : Value}
    (h : Calls P f args (grow w x) fun e w' => e = .returned v ∧ Below (grow w x).heap.size (grow w x) w') :
    Calls P f args (grow w x) fun e w'' => e = .returned v ∧ ∃ y, w'' = grow w y :=
  h.mono fun _ _ ⟨he, hb⟩ => ⟨he, below_grow ((grow_below w x).trans (hb.mono (grow_size w x)))⟩

theorem calls_grow_same {P : Program} {f : FuncId} {args : Array Value} {w x : World} {v : Value}
    (h : Calls P f args (grow w x) fun e w' => e = .returned v ∧ grow w x = w') :
    Calls P f args (grow w x) fun e w'' => e = .returned v ∧ ∃ y, w'' = grow w y :=
  h.mono fun _ _ ⟨he, hb⟩ => ⟨he, x, hb.symm⟩

theorem wp_region_grow {P : Program} {id : Nat} {Q : Exit → Act → World → Prop} {a : Act} {w : World} {l : List Oper} (hm : P.follows .mixedOrders = true) (hB : Region.lexB .any l.toArray = true)
    (h : wpQuiet P l.toArray (fun w' => ∃ n, w' = grow w n) (fun a' => ∀ w', (∃ n, w' = grow w n) → Q .normal a' w') l a) : (Code.region id l.toArray true).wp P Q a w :=
  wp_region_quiet (C := fun w' => ∃ n, w' = grow w n) hm hB (below_grow ((Below.refl _ w).drew)) (by simpa using h)

theorem bcell {W w1 : World} (hb : Below W.heap.size W w1) : (∀ b o, b < W.heap.size → w1.cell? ⟨b, o, none⟩ = W.cell? ⟨b, o, none⟩) ∧ (∀ b o, b < W.heap.size → w1.frozen? ⟨b, o, none⟩ = W.frozen? ⟨b, o, none⟩) :=
  ⟨fun b o h => hb.cell (p := ⟨b, o, none⟩) h, fun b o h => hb.frozen (p := ⟨b, o, none⟩) h⟩

theorem after {W w1 : World} (hb : Below W.heap.size W w1) : (∀ b o, b < W.heap.size → w1.cell? ⟨b, o, none⟩ = W.cell? ⟨b, o, none⟩) ∧ (∀ b o, b < W.heap.size → w1.frozen? ⟨b, o, none⟩ = W.frozen? ⟨b, o, none⟩) ∧ W.heap.size ≤ w1.heap.size :=
  ⟨fun b o h => hb.cell (p := ⟨b, o, none⟩) h, fun b o h => hb.frozen (p := ⟨b, o, none⟩) h, hb.size⟩

theorem mul_bd {a b A B : Int} (a0 : 0 ≤ a) (aA : a ≤ A) (b0 : 0 ≤ b) (bB : b ≤ B) : 0 ≤ a * b ∧ a * b ≤ A * B :=
  ⟨Int.mul_nonneg a0 b0, Int.mul_le_mul aA bB b0 (by omega)⟩

/-- the slice's head a: the numbers xs lie there -/
def Ints (w : World) (a : Option Addr) (xs : List Int) : Prop :=
  xs ≠ [] → ∃ b off, a = some ⟨b, off, none⟩ ∧ ∀ i, i < xs.length → w.cell? ⟨b, off + i, none⟩ = some (.int .i64 (xs[i]?.getD 0))

theorem Ints.at {w : World} {a : Option Addr} {xs : List Int} (h : Ints w a xs) {k : Nat} (hk : k < xs.length) :
    ∃ b off x, a = some ⟨b, off, none⟩ ∧ w.cell? ⟨b, off + k, none⟩ = some (.int .i64 x) ∧ Hid (xs[k]? = some x) := by
  obtain ⟨b, off, e, g⟩ := h (by rintro rfl; simp at hk)
  exact ⟨b, off, xs[k], e, by have := g k hk; simpa [hk] using this, Lib.hid (by simp [hk])⟩

theorem Ints.below {w w' : World} {a : Option Addr} {xs : List Int} (h : Ints w a xs) (hb : Below w.heap.size w w') : Ints w' a xs := by
  intro hx
  obtain ⟨b, off, e, g⟩ := h hx
  refine ⟨b, off, e, fun i hi => ?_⟩
  have := g i hi
  rw [hb.cell (p := ⟨b, off + i, none⟩) (World.block_lt_of_cell? _ _ this)]
  exact this

def idxF (p : Int → Bool) (xs : List Int) : Int := if xs.any p then (xs.findIdx p : Int) else -1

theorem any_take_succ {p : Int → Bool} {xs : List Int} {k : Nat} {x : Int} (hx : xs[k]? = some x) (h : (xs.take k).any p = false) : (xs.take (k + 1)).any p = p x := by
  obtain ⟨hk, rfl⟩ := List.getElem?_eq_some_iff.1 hx
  rw [List.take_succ_eq_append_getElem hk, List.any_append, h]
  simp

theorem idxF_here {p : Int → Bool} {xs : List Int} {k : Nat} {x : Int} (hx : xs[k]? = some x) (h : (xs.take k).any p = false) (hp : p x = true) : idxF p xs = k := by
  obtain ⟨hk, rfl⟩ := List.getElem?_eq_some_iff.1 hx
  unfold idxF
  rw [if_pos (by rw [List.any_eq_true]; exact ⟨xs[k], List.getElem_mem hk, hp⟩)]
  have : xs.findIdx p = k := by
    rw [List.findIdx_eq hk]
    refine ⟨hp, fun j hj => ?_⟩
    have h1 : ∀ x ∈ xs.take k, ¬ p x = true := by
      intro x hx hpx
      have : (xs.take k).any p = true := by rw [List.any_eq_true]; exact ⟨x, hx, hpx⟩
      rw [h] at this; cases this
    have := h1 xs[j] (by rw [List.mem_take_iff_getElem]; exact ⟨j, by omega, rfl⟩)
    simpa using this
  rw [this]

theorem idxF_none (p : Int → Bool) (xs : List Int) (k : Nat) (hk : xs.length ≤ k) (h : (xs.take k).any p = false) : idxF p xs = -1 := by
  unfold idxF
  rw [List.take_of_length_le hk] at h
  rw [h]; rfl

theorem idxF_nonneg (p : Int → Bool) (xs : List Int) : decide (0 ≤ idxF p xs) = xs.any p := by
  unfold idxF
  cases xs.any p
  · rfl
  · simp

theorem idxF_bd (p : Int → Bool) (xs : List Int) : -1 ≤ idxF p xs := by
  unfold idxF; split <;> omega

/-! ### a map that has just been made, with integers for keys -/
theorem run_mapInsert_int {P : Program} {T K E : TypeId} {q : IntKind} (hT : P.underlying T = some (.map K E)) (hK : P.underlying K = some (.int q)) (w : World) (r : Nat) (hr : r = w.heap.size) (es : Array MapEntry) (clock : Nat) (n : Int) (v : Value)
    (hno : Instr.findNow (.int q) (.int q n) es.toList 0 = some none) :
    (Instr.mapUpdate T (.map (some r)) (.int q n) v).run P (w.alloc (.map es clock)) = .ok () (w.alloc (.map (es.push { key := .int q n, val := v, born := clock }) (clock + 1))) := by
  subst hr
  have hb : (w.alloc (.map es clock)).heap[w.heap.size]? = some (.map es clock) := (MapKept.heap_alloc w _).1
  have hc : (Instr.checkKey false 10000 K (.int q n)).run P (w.alloc (.map es clock)) = .ok () (w.alloc (.map es clock)) := MapKept.run_checkKey (k := .int q n) hK (by simp [MapKept.IsKey]) false 9999
  have hset : ({ w.alloc (.map es clock) with heap := (w.alloc (.map es clock)).heap.setIfInBounds w.heap.size (.map (es.push { key := .int q n, val := v, born := clock }) (clock + 1)) } : World) = w.alloc (.map (es.push { key := .int q n, val := v, born := clock }) (clock + 1)) := by
    show ({ w with heap := (w.heap.push _).setIfInBounds w.heap.size _ } : World) = { w with heap := w.heap.push _ }
    congr 1
    apply Array.ext
    · simp
    · intro i h1 h2
      have h3 : i < (w.heap.push (Obj.map es clock)).size := by simpa using h1
      rw [Array.getElem_setIfInBounds h3]
      split
      · rename_i h; subst h; simp
      · rename_i h
        have : i < w.heap.size := by simp at h1; omega
        rw [Array.getElem_push_lt this, Array.getElem_push_lt this]
  rw [← hset]
  simp [Instr.mapUpdate, run_underlying hT, MapKept.run_getObj_map hb, hc, MapKept.run_findKey hK hno, MapKept.run_setObj_map _ hb, Result.andThen]

theorem run_lookup_int {P : Program} {T K E : TypeId} {q : IntKind} (hT : P.underlying T = some (.map K E)) (hK : P.underlying K = some (.int q)) (w : World) (r : Nat) (es : Array MapEntry) (clock : Nat) (hg : w.heap[r]? = some (.map es clock)) (n : Int) (i : Nat) (v : Value)
    (hno : Instr.findNow (.int q) (.int q n) es.toList 0 = some (some (i, v))) :
    (Instr.lookup T (.map (some r)) (.int q n) false).run P w = .ok v w := by
  have hc : ∀ b, (Instr.checkKey b 10000 K (.int q n)).run P w = .ok () w := fun b => MapKept.run_checkKey (k := .int q n) hK (by simp [MapKept.IsKey]) b 9999
  simp [Instr.lookup, run_underlying hT, MapKept.run_getObj_map hg, hc, MapKept.run_findKey hK hno, Result.andThen]

theorem sameNow_int (q : IntKind) (a b : Int) : Instr.sameNow (.int q) (.int q a) (.int q b) = some (a == b) := by simp [Instr.sameNow]

/-- a literal map of two entries: its making, and its look-ups -/
theorem map2 {P : Program} {T K E : TypeId} {q : IntKind} (hT : P.underlying T = some (.map K E)) (hK : P.underlying K = some (.int q)) (w : World) (r : Nat) (hr : r = w.heap.size) (n1 n2 : Int) (v1 v2 : Value) (hne : n1 ≠ n2) :
    (Instr.mapUpdate T (.map (some r)) (.int q n1) v1).run P (w.alloc (.map #[] 0)) = .ok () (w.alloc (.map #[{ key := .int q n1, val := v1, born := 0 }] 1)) ∧
    (Instr.mapUpdate T (.map (some r)) (.int q n2) v2).run P (w.alloc (.map #[{ key := .int q n1, val := v1, born := 0 }] 1)) = .ok () (w.alloc (.map #[{ key := .int q n1, val := v1, born := 0 }, { key := .int q n2, val := v2, born := 1 }] 2)) ∧
    (Instr.lookup T (.map (some r)) (.int q n1) false).run P (w.alloc (.map #[{ key := .int q n1, val := v1, born := 0 }, { key := .int q n2, val := v2, born := 1 }] 2)) = .ok v1 (w.alloc (.map #[{ key := .int q n1, val := v1, born := 0 }, { key := .int q n2, val := v2, born := 1 }] 2)) ∧
    (Instr.lookup T (.map (some r)) (.int q n2) false).run P (w.alloc (.map #[{ key := .int q n1, val := v1, born := 0 }, { key := .int q n2, val := v2, born := 1 }] 2)) = .ok v2 (w.alloc (.map #[{ key := .int q n1, val := v1, born := 0 }, { key := .int q n2, val := v2, born := 1 }] 2)) := by
  have e1 : (n2 == n1) = false := by simp; omega
  have e2 : (n1 == n2) = false := by simp; omega
  refine ⟨run_mapInsert_int hT hK w r hr #[] 0 n1 v1 rfl, run_mapInsert_int hT hK w r hr #[_] 1 n2 v2 ?_, ?_, ?_⟩
  · simp [Instr.findNow, sameNow_int, e1]
  · refine run_lookup_int hT hK _ r _ 2 (by rw [hr]; exact (MapKept.heap_alloc w _).1) n1 0 v1 ?_
    simp [Instr.findNow, sameNow_int]
  · refine run_lookup_int hT hK _ r _ 2 (by rw [hr]; exact (MapKept.heap_alloc w _).1) n2 1 v2 ?_
    simp [Instr.findNow, sameNow_int, e1]

end Go.Proofs.Ytphfbjeaklpddaa
