/-
  Layer 42, the rows: arguments opened.
-/
import Derived.Test.YtphfbjeaklpddaaLj
import Derived.Test.YtphfbjeaklpddaaLaw
namespace Go.Proofs.Ytphfbjeaklpddaa
open Go.ChangeShapes Go.WideShapes Go.ChangeAt Go.RowKit

theorem take1 {cs : List Value} {k : Nat} {c : Value} (h : (cs.drop k).take 1 = [c]) : cs[k]? = some c := by
  have : ((cs.drop k).take 1)[0]? = some c := by rw [h]; rfl
  rw [List.getElem?_take_of_lt (by omega), List.getElem?_drop] at this
  simpa using this

set_option maxRecDepth 100000 in
theorem open_dr {H : Type} {enc : TypeId × Value → H} {W : World} {base base' : Nat} {r : Reach} {v : Value} {d : DataW H} {p : List MemPlace}
    (hv : Value.okWide Try.prog W r base' 24 v) (h : DataW.Trod enc Try.prog W base (fun _ => true) true 24 v d p) :
    ∃ (D : Dr) (a : Option Addr) (cap : Nat), v = D.v a cap ∧ D.ok ∧ U16s W a D.vs := by
  have hs := Try.underlying24
  obtain ⟨cs, rfl, hsz⟩ := okWide_struct hs hv
  obtain ⟨fuel, hf⟩ := h
  obtain ⟨xs, n, _, _, _, hxl, hall⟩ := DataW.trod_struct hs hf
  have hsz7 : cs.size = 7 := hsz.trans (by kernel_rfl)
  have hx7 : xs.length = 7 := hxl
  obtain ⟨x0, x1, x2, x3, x4, x5, x6, rfl⟩ : ∃ x0 x1 x2 x3 x4 x5 x6, xs = [x0, x1, x2, x3, x4, x5, x6] := by
    match xs, hx7 with
    | [x0, x1, x2, x3, x4, x5, x6], _ => exact ⟨x0, x1, x2, x3, x4, x5, x6, rfl⟩
  obtain ⟨c0, c1, c2, c3, c4, c5, c6, hcs⟩ : ∃ c0 c1 c2 c3 c4 c5 c6, cs = #[c0, c1, c2, c3, c4, c5, c6] := by
    obtain ⟨l⟩ := cs
    have hl : l.length = 7 := hsz7
    match l, hl with
    | [c0, c1, c2, c3, c4, c5, c6], _ => exact ⟨c0, c1, c2, c3, c4, c5, c6, rfl⟩
  subst hcs
  have k5 : Try.prog.cellsOf 5 = 1 := by kernel_rfl
  have k4 : Try.prog.cellsOf 4 = 1 := by kernel_rfl
  have k22 : Try.prog.cellsOf 22 = 1 := by kernel_rfl
  have k45 : Try.prog.cellsOf 45 = 1 := by kernel_rfl
  have g0 : DataW.trod enc Try.prog W base (fun _ => true) true n 5 [c0] = some x0 := by
    have h := hall 0 _ rfl
    simpa [Value.cells, k5, k4, k22] using h
  have g1 : DataW.trod enc Try.prog W base (fun _ => true) true n 5 [c1] = some x1 := by
    have h := hall 1 _ rfl
    simpa [Value.cells, k5, k4, k22] using h
  have g2 : DataW.trod enc Try.prog W base (fun _ => true) true n 5 [c2] = some x2 := by
    have h := hall 2 _ rfl
    simpa [Value.cells, k5, k4, k22] using h
  have g3 : DataW.trod enc Try.prog W base (fun _ => true) true n 5 [c3] = some x3 := by
    have h := hall 3 _ rfl
    simpa [Value.cells, k5, k4, k22] using h
  have g4 : DataW.trod enc Try.prog W base (fun _ => true) true n 4 [c4] = some x4 := by
    have h := hall 4 _ rfl
    simpa [Value.cells, k5, k4, k22] using h
  have g5 : DataW.trod enc Try.prog W base (fun _ => true) true n 4 [c5] = some x5 := by
    have h := hall 5 _ rfl
    simpa [Value.cells, k5, k4, k22] using h
  have g6 : DataW.trod enc Try.prog W base (fun _ => true) true n 22 [c6] = some x6 := by
    have h := hall 6 _ rfl
    simpa [Value.cells, k5, k4, k22] using h
  clear hall hf hv
  obtain ⟨n0, e0, -, wf0⟩ := DataW.trod_int Try.underlying5 g0
  cases e0
  have b0 := bounds_u8 wf0
  obtain ⟨n1, e1, -, wf1⟩ := DataW.trod_int Try.underlying5 g1
  cases e1
  have b1 := bounds_u8 wf1
  obtain ⟨n2, e2, -, wf2⟩ := DataW.trod_int Try.underlying5 g2
  cases e2
  have b2 := bounds_u8 wf2
  obtain ⟨n3, e3, -, wf3⟩ := DataW.trod_int Try.underlying5 g3
  cases e3
  have b3 := bounds_u8 wf3
  obtain ⟨n4, e4, -⟩ := DataW.trod_bool Try.underlying4 g4
  cases e4
  obtain ⟨n5, e5, -⟩ := DataW.trod_bool Try.underlying4 g5
  cases e5
  rcases open_ints Try.underlying22 Try.underlying45 k45 g6 with ⟨e6, -⟩ | ⟨a, len, cap, zs, e6, _, hl, hm, hz, -, hcell, hwf⟩
  · cases e6
    refine ⟨⟨n0, n1, n2, n3, n4, n5, []⟩, none, 0, rfl, ⟨b0.1, by have := b0.2; show n0 < 256; omega, b1.1, by have := b1.2; show n1 < 256; omega, b2.1, by have := b2.2; show n2 < 256; omega, b3.1, by have := b3.2; show n3 < 256; omega, by simp, Nat.zero_le _⟩, fun h => absurd rfl h⟩
  · cases e6
    rw [if_pos rfl] at hz
    have hlt : (zs.take len).length = len := by rw [List.length_take]; omega
    refine ⟨⟨n0, n1, n2, n3, n4, n5, zs.take len⟩, some a, cap, ?_, ⟨b0.1, by have := b0.2; show n0 < 256; omega, b1.1, by have := b1.2; show n1 < 256; omega, b2.1, by have := b2.2; show n2 < 256; omega, b3.1, by have := b3.2; show n3 < 256; omega, ?_, by show (zs.take len).length ≤ maxLen; omega⟩, ?_⟩
    · unfold Dr.v
      dsimp only
      rw [hlt]
    · intro v hv
      have := bounds_u16 (hwf v (List.mem_of_mem_take hv))
      omega
    · intro hne
      have hpos : 0 < zs.length := by
        rcases Nat.eq_zero_or_pos zs.length with h | h
        · exact absurd (by show zs.take len = []; rw [List.eq_nil_of_length_eq_zero h, List.take_nil]) hne
        · exact h
      obtain ⟨b, off, rfl, hc⟩ := ints_at hcell hpos
      refine ⟨b, off, rfl, fun i hi => ?_⟩
      have hi' : i < len := by rw [← hlt]; exact hi
      rw [hc i (by omega)]
      simp [List.getD, hi']

set_option maxRecDepth 100000 in
theorem open_u8x2 {H : Type} {enc : TypeId × Value → H} {W : World} {base base' : Nat} {r : Reach} {v : Value} {d : DataW H} {p : List MemPlace}
    (hv : Value.okWide Try.prog W r base' 43 v) (h : DataW.Trod enc Try.prog W base (fun _ => true) true 43 v d p) :
    ∃ n0 n1 : Int, v = .agg #[.int .u8 n0, .int .u8 n1] ∧ (0 ≤ n0 ∧ n0 < 256) ∧ (0 ≤ n1 ∧ n1 < 256) := by
  have hs := Try.underlying43
  have ke : Try.prog.cellsOf 5 = 1 := by kernel_rfl
  obtain ⟨cs, rfl, hsz⟩ : ∃ cs, v = .agg cs ∧ cs.size = Try.prog.cellsOf 43 := by
    simp only [Value.okWide, hs] at hv
    obtain ⟨cs, h1, h2, _⟩ := hv
    exact ⟨cs, h1, h2⟩
  obtain ⟨fuel, hf⟩ := h
  obtain ⟨xs, n, _, _, _, hxl, hall⟩ := DataW.trod_array hs hf
  have hszn : cs.size = 2 := hsz.trans (by kernel_rfl)
  obtain ⟨x0, x1, rfl⟩ : ∃ x0 x1, xs = [x0, x1] := by
    match xs, hxl with
    | [x0, x1], _ => exact ⟨x0, x1, rfl⟩
  obtain ⟨c0, c1, hcs⟩ : ∃ c0 c1, cs = #[c0, c1] := by
    obtain ⟨l⟩ := cs
    have hl : l.length = 2 := hszn
    match l, hl with
    | [c0, c1], _ => exact ⟨c0, c1, rfl⟩
  subst hcs
  have g0 : DataW.trod enc Try.prog W base (fun _ => true) true n 5 [c0] = some x0 := by
    have h := hall 0 (by omega)
    simpa [Value.cells, ke] using h
  obtain ⟨n0, e0, -, wf0⟩ := DataW.trod_int Try.underlying5 g0
  cases e0
  have b0 := bounds_u8 wf0
  have g1 : DataW.trod enc Try.prog W base (fun _ => true) true n 5 [c1] = some x1 := by
    have h := hall 1 (by omega)
    simpa [Value.cells, ke] using h
  obtain ⟨n1, e1, -, wf1⟩ := DataW.trod_int Try.underlying5 g1
  cases e1
  have b1 := bounds_u8 wf1
  exact ⟨n0, n1, rfl, ⟨b0.1, by omega⟩, ⟨b1.1, by omega⟩⟩

set_option maxRecDepth 100000 in
theorem open_u16x4 {H : Type} {enc : TypeId × Value → H} {W : World} {base base' : Nat} {r : Reach} {v : Value} {d : DataW H} {p : List MemPlace}
    (hv : Value.okWide Try.prog W r base' 46 v) (h : DataW.Trod enc Try.prog W base (fun _ => true) true 46 v d p) :
    ∃ n0 n1 n2 n3 : Int, v = .agg #[.int .u16 n0, .int .u16 n1, .int .u16 n2, .int .u16 n3] ∧ (0 ≤ n0 ∧ n0 < 65536) ∧ (0 ≤ n1 ∧ n1 < 65536) ∧ (0 ≤ n2 ∧ n2 < 65536) ∧ (0 ≤ n3 ∧ n3 < 65536) := by
  have hs := Try.underlying46
  have ke : Try.prog.cellsOf 45 = 1 := by kernel_rfl
  obtain ⟨cs, rfl, hsz⟩ : ∃ cs, v = .agg cs ∧ cs.size = Try.prog.cellsOf 46 := by
    simp only [Value.okWide, hs] at hv
    obtain ⟨cs, h1, h2, _⟩ := hv
    exact ⟨cs, h1, h2⟩
  obtain ⟨fuel, hf⟩ := h
  obtain ⟨xs, n, _, _, _, hxl, hall⟩ := DataW.trod_array hs hf
  have hszn : cs.size = 4 := hsz.trans (by kernel_rfl)
  obtain ⟨x0, x1, x2, x3, rfl⟩ : ∃ x0 x1 x2 x3, xs = [x0, x1, x2, x3] := by
    match xs, hxl with
    | [x0, x1, x2, x3], _ => exact ⟨x0, x1, x2, x3, rfl⟩
  obtain ⟨c0, c1, c2, c3, hcs⟩ : ∃ c0 c1 c2 c3, cs = #[c0, c1, c2, c3] := by
    obtain ⟨l⟩ := cs
    have hl : l.length = 4 := hszn
    match l, hl with
    | [c0, c1, c2, c3], _ => exact ⟨c0, c1, c2, c3, rfl⟩
  subst hcs
  have g0 : DataW.trod enc Try.prog W base (fun _ => true) true n 45 [c0] = some x0 := by
    have h := hall 0 (by omega)
    simpa [Value.cells, ke] using h
  obtain ⟨n0, e0, -, wf0⟩ := DataW.trod_int Try.underlying45 g0
  cases e0
  have b0 := bounds_u16 wf0
  have g1 : DataW.trod enc Try.prog W base (fun _ => true) true n 45 [c1] = some x1 := by
    have h := hall 1 (by omega)
    simpa [Value.cells, ke] using h
  obtain ⟨n1, e1, -, wf1⟩ := DataW.trod_int Try.underlying45 g1
  cases e1
  have b1 := bounds_u16 wf1
  have g2 : DataW.trod enc Try.prog W base (fun _ => true) true n 45 [c2] = some x2 := by
    have h := hall 2 (by omega)
    simpa [Value.cells, ke] using h
  obtain ⟨n2, e2, -, wf2⟩ := DataW.trod_int Try.underlying45 g2
  cases e2
  have b2 := bounds_u16 wf2
  have g3 : DataW.trod enc Try.prog W base (fun _ => true) true n 45 [c3] = some x3 := by
    have h := hall 3 (by omega)
    simpa [Value.cells, ke] using h
  obtain ⟨n3, e3, -, wf3⟩ := DataW.trod_int Try.underlying45 g3
  cases e3
  have b3 := bounds_u16 wf3
  exact ⟨n0, n1, n2, n3, rfl, ⟨b0.1, by omega⟩, ⟨b1.1, by omega⟩, ⟨b2.1, by omega⟩, ⟨b3.1, by omega⟩⟩

end Go.Proofs.Ytphfbjeaklpddaa
