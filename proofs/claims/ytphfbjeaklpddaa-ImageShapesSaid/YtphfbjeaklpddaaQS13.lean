/-
  ImageShapes answers true. No condition.
-/
import Derived.Test.YtphfbjeaklpddaaQS9
import Derived.Test.YtphfbjeaklpddaaQS8
import Derived.Test.YtphfbjeaklpddaaQS12
set_option linter.unusedSimpArgs false
set_option linter.unusedVariables false

/- Layer 42: bends as arguments. -/
namespace Go.Proofs.Ytphfbjeaklpddaa
open Go.ChangeShapes Go.WideShapes Go.ChangeAt Go.RowKit

set_option maxRecDepth 100000 in
theorem open_bends {H : Type} {enc : TypeId × Value → H} {W : World} {base base' : Nat} {r : Reach} {v : Value} {d : DataW H} {p : List MemPlace}
    (hv : Value.okWide Try.prog W r base' 27 v) (h : DataW.Trod enc Try.prog W base (fun _ => true) true 27 v d p) :
    ∃ b0 b1 : Bn, v = .agg #[.int .u8 b0.wh, .int .u8 b0.ap, .int .u8 b0.oc, .int .i64 b0.n, .int .u8 b1.wh, .int .u8 b1.ap, .int .u8 b1.oc, .int .i64 b1.n] ∧ b0.ok ∧ b1.ok := by
  have hs := Try.underlying27
  have hs2 := Try.underlying26
  have ke : Try.prog.cellsOf 26 = 4 := by kernel_rfl
  have k5 : Try.prog.cellsOf 5 = 1 := by kernel_rfl
  have k3 : Try.prog.cellsOf 3 = 1 := by kernel_rfl
  obtain ⟨cs, rfl, hsz⟩ : ∃ cs, v = .agg cs ∧ cs.size = Try.prog.cellsOf 27 := by
    simp only [Value.okWide, hs] at hv
    obtain ⟨cs, h1, h2, _⟩ := hv
    exact ⟨cs, h1, h2⟩
  obtain ⟨fuel, hf⟩ := h
  obtain ⟨xs, n, _, _, _, hxl, hall⟩ := DataW.trod_array hs hf
  have hszn : cs.size = 8 := hsz.trans (by kernel_rfl)
  obtain ⟨x0, x1, rfl⟩ : ∃ x0 x1, xs = [x0, x1] := by
    match xs, hxl with
    | [x0, x1], _ => exact ⟨x0, x1, rfl⟩
  obtain ⟨c0, c1, c2, c3, c4, c5, c6, c7, hcs⟩ : ∃ c0 c1 c2 c3 c4 c5 c6 c7, cs = #[c0, c1, c2, c3, c4, c5, c6, c7] := by
    obtain ⟨l⟩ := cs
    have hl : l.length = 8 := hszn
    match l, hl with
    | [c0, c1, c2, c3, c4, c5, c6, c7], _ => exact ⟨c0, c1, c2, c3, c4, c5, c6, c7, rfl⟩
  subst hcs
  have g0 : DataW.trod enc Try.prog W base (fun _ => true) true n 26 [c0, c1, c2, c3] = some x0 := by
    have h := hall 0 (by omega)
    simpa [Value.cells, ke] using h
  obtain ⟨ys0, m0, _, _, _, hyl0, hall0⟩ := DataW.trod_struct hs2 g0
  obtain ⟨y00, y01, y02, y03, rfl⟩ : ∃ a b c d, ys0 = [a, b, c, d] := by
    match ys0, hyl0 with
    | [a, b, c, d], _ => exact ⟨a, b, c, d, rfl⟩
  have f00 : DataW.trod enc Try.prog W base (fun _ => true) true m0 5 [c0] = some y00 := by
    have h := hall0 0 _ rfl
    simpa [Value.cells, k5, k3] using h
  obtain ⟨n00, e00, -, wf00⟩ := DataW.trod_int Try.underlying5 f00
  cases e00
  have b00 := bounds_u8 wf00
  have f01 : DataW.trod enc Try.prog W base (fun _ => true) true m0 5 [c1] = some y01 := by
    have h := hall0 1 _ rfl
    simpa [Value.cells, k5, k3] using h
  obtain ⟨n01, e01, -, wf01⟩ := DataW.trod_int Try.underlying5 f01
  cases e01
  have b01 := bounds_u8 wf01
  have f02 : DataW.trod enc Try.prog W base (fun _ => true) true m0 5 [c2] = some y02 := by
    have h := hall0 2 _ rfl
    simpa [Value.cells, k5, k3] using h
  obtain ⟨n02, e02, -, wf02⟩ := DataW.trod_int Try.underlying5 f02
  cases e02
  have b02 := bounds_u8 wf02
  have f03 : DataW.trod enc Try.prog W base (fun _ => true) true m0 3 [c3] = some y03 := by
    have h := hall0 3 _ rfl
    simpa [Value.cells, k5, k3] using h
  obtain ⟨n03, e03, -, wf03⟩ := DataW.trod_int Try.underlying3 f03
  cases e03
  have g1 : DataW.trod enc Try.prog W base (fun _ => true) true n 26 [c4, c5, c6, c7] = some x1 := by
    have h := hall 1 (by omega)
    simpa [Value.cells, ke] using h
  obtain ⟨ys1, m1, _, _, _, hyl1, hall1⟩ := DataW.trod_struct hs2 g1
  obtain ⟨y10, y11, y12, y13, rfl⟩ : ∃ a b c d, ys1 = [a, b, c, d] := by
    match ys1, hyl1 with
    | [a, b, c, d], _ => exact ⟨a, b, c, d, rfl⟩
  have f10 : DataW.trod enc Try.prog W base (fun _ => true) true m1 5 [c4] = some y10 := by
    have h := hall1 0 _ rfl
    simpa [Value.cells, k5, k3] using h
  obtain ⟨n10, e10, -, wf10⟩ := DataW.trod_int Try.underlying5 f10
  cases e10
  have b10 := bounds_u8 wf10
  have f11 : DataW.trod enc Try.prog W base (fun _ => true) true m1 5 [c5] = some y11 := by
    have h := hall1 1 _ rfl
    simpa [Value.cells, k5, k3] using h
  obtain ⟨n11, e11, -, wf11⟩ := DataW.trod_int Try.underlying5 f11
  cases e11
  have b11 := bounds_u8 wf11
  have f12 : DataW.trod enc Try.prog W base (fun _ => true) true m1 5 [c6] = some y12 := by
    have h := hall1 2 _ rfl
    simpa [Value.cells, k5, k3] using h
  obtain ⟨n12, e12, -, wf12⟩ := DataW.trod_int Try.underlying5 f12
  cases e12
  have b12 := bounds_u8 wf12
  have f13 : DataW.trod enc Try.prog W base (fun _ => true) true m1 3 [c7] = some y13 := by
    have h := hall1 3 _ rfl
    simpa [Value.cells, k5, k3] using h
  obtain ⟨n13, e13, -, wf13⟩ := DataW.trod_int Try.underlying3 f13
  cases e13
  exact ⟨⟨n00, n01, n02, n03⟩, ⟨n10, n11, n12, n13⟩, rfl, ⟨⟨b00.1, by show n00 < 256; omega⟩, ⟨b01.1, by show n01 < 256; omega⟩, ⟨b02.1, by show n02 < 256; omega⟩⟩, ⟨⟨b10.1, by show n10 < 256; omega⟩, ⟨b11.1, by show n11 < 256; omega⟩, ⟨b12.1, by show n12 < 256; omega⟩⟩⟩

theorem bends_rv {w : World} {M : Nat → Prop} {b0 b1 : Bn} : RV w M noRho (.agg #[.int .u8 b0.wh, .int .u8 b0.ap, .int .u8 b0.oc, .int .i64 b0.n, .int .u8 b1.wh, .int .u8 b1.ap, .int .u8 b1.oc, .int .i64 b1.n])
    (.agg [.d (.int .u8 b0.wh), .d (.int .u8 b0.ap), .d (.int .u8 b0.oc), .d (.int .i64 b0.n), .d (.int .u8 b1.wh), .d (.int .u8 b1.ap), .d (.int .u8 b1.oc), .d (.int .i64 b1.n)]) :=
  RV.of_ex (x := .agg [.d (.int .u8 b0.wh), .d (.int .u8 b0.ap), .d (.int .u8 b0.oc), .d (.int .i64 b0.n), .d (.int .u8 b1.wh), .d (.int .u8 b1.ap), .d (.int .u8 b1.oc), .d (.int .i64 b1.n)]) rfl

end Go.Proofs.Ytphfbjeaklpddaa

/- ImageShapes answers true. No condition. -/
namespace Go.Proofs.Ytphfbjeaklpddaa
open Go.ChangeShapes Go.WideShapes Go.ChangeAt Go.RowKit
set_option maxRecDepth 100000 in
theorem open_i64x4 {H : Type} {enc : TypeId × Value → H} {W : World} {base base' : Nat} {r : Reach} {v : Value} {d : DataW H} {p : List MemPlace}
    (hv : Value.okWide Try.prog W r base' 56 v) (h : DataW.Trod enc Try.prog W base (fun _ => true) true 56 v d p) :
    ∃ n0 n1 n2 n3 : Int, v = .agg #[.int .i64 n0, .int .i64 n1, .int .i64 n2, .int .i64 n3] ∧ (-9223372036854775808 ≤ n0 ∧ n0 < 9223372036854775808) ∧ (-9223372036854775808 ≤ n1 ∧ n1 < 9223372036854775808) ∧ (-9223372036854775808 ≤ n2 ∧ n2 < 9223372036854775808) ∧ (-9223372036854775808 ≤ n3 ∧ n3 < 9223372036854775808) := by
  have hs := Try.underlying56
  have ke : Try.prog.cellsOf 3 = 1 := by kernel_rfl
  obtain ⟨cs, rfl, hsz⟩ : ∃ cs, v = .agg cs ∧ cs.size = Try.prog.cellsOf 56 := by
    simp only [Value.okWide, hs] at hv
    obtain ⟨cs, h1, h2, _⟩ := hv
    exact ⟨cs, h1, h2⟩
  obtain ⟨fuel, hf⟩ := h
  obtain ⟨xs, n, _, _, _, hxl, hall⟩ := DataW.trod_array hs hf
  have hszn : cs.size = 4 := hsz.trans (by kernel_rfl)
  obtain ⟨x0, x1, x2, x3, rfl⟩ : ∃ x0 x1 x2 x3, xs = [x0, x1, x2, x3] := by
    match xs, hxl with
    | [x0, x1, x2, x3], _ => exact ⟨x0, x1, x2, x3, rfl⟩
  obtain ⟨c0, c1, c2, c3, hcs⟩ : ∃ c0 c1 c2 c3, cs = #[c0, c1, c2, c3] := by
    obtain ⟨l⟩ := cs
    have hl : l.length = 4 := hszn
    match l, hl with
    | [c0, c1, c2, c3], _ => exact ⟨c0, c1, c2, c3, rfl⟩
  subst hcs
  have g0 : DataW.trod enc Try.prog W base (fun _ => true) true n 3 [c0] = some x0 := by
    have h := hall 0 (by omega)
    simpa [Value.cells, ke] using h
  obtain ⟨n0, e0, -, wf0⟩ := DataW.trod_int Try.underlying3 g0
  cases e0
  have b0 := bounds_i64 wf0
  have g1 : DataW.trod enc Try.prog W base (fun _ => true) true n 3 [c1] = some x1 := by
    have h := hall 1 (by omega)
    simpa [Value.cells, ke] using h
  obtain ⟨n1, e1, -, wf1⟩ := DataW.trod_int Try.underlying3 g1
  cases e1
  have b1 := bounds_i64 wf1
  have g2 : DataW.trod enc Try.prog W base (fun _ => true) true n 3 [c2] = some x2 := by
    have h := hall 2 (by omega)
    simpa [Value.cells, ke] using h
  obtain ⟨n2, e2, -, wf2⟩ := DataW.trod_int Try.underlying3 g2
  cases e2
  have b2 := bounds_i64 wf2
  have g3 : DataW.trod enc Try.prog W base (fun _ => true) true n 3 [c3] = some x3 := by
    have h := hall 3 (by omega)
    simpa [Value.cells, ke] using h
  obtain ⟨n3, e3, -, wf3⟩ := DataW.trod_int Try.underlying3 g3
  cases e3
  have b3 := bounds_i64 wf3
  exact ⟨n0, n1, n2, n3, rfl, ⟨b0.1, by omega⟩, ⟨b1.1, by omega⟩, ⟨b2.1, by omega⟩, ⟨b3.1, by omega⟩⟩

set_option maxRecDepth 100000 in
theorem open_u8x4 {H : Type} {enc : TypeId × Value → H} {W : World} {base base' : Nat} {r : Reach} {v : Value} {d : DataW H} {p : List MemPlace}
    (hv : Value.okWide Try.prog W r base' 60 v) (h : DataW.Trod enc Try.prog W base (fun _ => true) true 60 v d p) :
    ∃ n0 n1 n2 n3 : Int, v = .agg #[.int .u8 n0, .int .u8 n1, .int .u8 n2, .int .u8 n3] ∧ (0 ≤ n0 ∧ n0 < 256) ∧ (0 ≤ n1 ∧ n1 < 256) ∧ (0 ≤ n2 ∧ n2 < 256) ∧ (0 ≤ n3 ∧ n3 < 256) := by
  have hs := Try.underlying60
  have ke : Try.prog.cellsOf 5 = 1 := by kernel_rfl
  obtain ⟨cs, rfl, hsz⟩ : ∃ cs, v = .agg cs ∧ cs.size = Try.prog.cellsOf 60 := by
    simp only [Value.okWide, hs] at hv
    obtain ⟨cs, h1, h2, _⟩ := hv
    exact ⟨cs, h1, h2⟩
  obtain ⟨fuel, hf⟩ := h
  obtain ⟨xs, n, _, _, _, hxl, hall⟩ := DataW.trod_array hs hf
  have hszn : cs.size = 4 := hsz.trans (by kernel_rfl)
  obtain ⟨x0, x1, x2, x3, rfl⟩ : ∃ x0 x1 x2 x3, xs = [x0, x1, x2, x3] := by
    match xs, hxl with
    | [x0, x1, x2, x3], _ => exact ⟨x0, x1, x2, x3, rfl⟩
  obtain ⟨c0, c1, c2, c3, hcs⟩ : ∃ c0 c1 c2 c3, cs = #[c0, c1, c2, c3] := by
    obtain ⟨l⟩ := cs
    have hl : l.length = 4 := hszn
    match l, hl with
    | [c0, c1, c2, c3], _ => exact ⟨c0, c1, c2, c3, rfl⟩
  subst hcs
  have g0 : DataW.trod enc Try.prog W base (fun _ => true) true n 5 [c0] = some x0 := by
    have h := hall 0 (by omega)
    simpa [Value.cells, ke] using h
  obtain ⟨n0, e0, -, wf0⟩ := DataW.trod_int Try.underlying5 g0
  cases e0
  have b0 := bounds_u8 wf0
  have g1 : DataW.trod enc Try.prog W base (fun _ => true) true n 5 [c1] = some x1 := by
    have h := hall 1 (by omega)
    simpa [Value.cells, ke] using h
  obtain ⟨n1, e1, -, wf1⟩ := DataW.trod_int Try.underlying5 g1
  cases e1
  have b1 := bounds_u8 wf1
  have g2 : DataW.trod enc Try.prog W base (fun _ => true) true n 5 [c2] = some x2 := by
    have h := hall 2 (by omega)
    simpa [Value.cells, ke] using h
  obtain ⟨n2, e2, -, wf2⟩ := DataW.trod_int Try.underlying5 g2
  cases e2
  have b2 := bounds_u8 wf2
  have g3 : DataW.trod enc Try.prog W base (fun _ => true) true n 5 [c3] = some x3 := by
    have h := hall 3 (by omega)
    simpa [Value.cells, ke] using h
  obtain ⟨n3, e3, -, wf3⟩ := DataW.trod_int Try.underlying5 g3
  cases e3
  have b3 := bounds_u8 wf3
  exact ⟨n0, n1, n2, n3, rfl, ⟨b0.1, by omega⟩, ⟨b1.1, by omega⟩, ⟨b2.1, by omega⟩, ⟨b3.1, by omega⟩⟩


set_option maxRecDepth 100000 in
theorem open_bool {H : Type} {enc : TypeId × Value → H} {W : World} {base : Nat} {v : Value} {d : DataW H} {p : List MemPlace} {base' : Nat} {r : Reach} (hv : Value.okWide Try.prog W r base' 4 v) (h : DataW.Trod enc Try.prog W base (fun _ => true) true 4 v d p) : ∃ b : Bool, v = .bool b := by
  obtain ⟨fuel, hf⟩ := h
  have hu := Try.underlying4
  have hone : v.cells = #[v] := by cases v <;> first | rfl | (exfalso; simp [Value.okWide, hu, Cell.okWide, Cell.ok] at hv)
  obtain ⟨b, e, -⟩ := DataW.trod_bool hu hf
  rw [hone] at e
  exact ⟨b, by simpa using e⟩

theorem pl_rv {w : World} {M : Nat → Prop} {b : Bool} : RV w M noRho (.bool b) (.d (.bool b)) := .d (.bool b)
theorem q4_rv {w : World} {M : Nat → Prop} {n0 n1 n2 n3 : Int} : RV w M noRho (.agg #[.int .i64 n0, .int .i64 n1, .int .i64 n2, .int .i64 n3]) (.agg [.d (.int .i64 n0), .d (.int .i64 n1), .d (.int .i64 n2), .d (.int .i64 n3)]) :=
  RV.of_ex (x := .agg [.d (.int .i64 n0), .d (.int .i64 n1), .d (.int .i64 n2), .d (.int .i64 n3)]) rfl
theorem y4_rv {w : World} {M : Nat → Prop} {n0 n1 n2 n3 : Int} : RV w M noRho (.agg #[.int .u8 n0, .int .u8 n1, .int .u8 n2, .int .u8 n3]) (.agg [.d (.int .u8 n0), .d (.int .u8 n1), .d (.int .u8 n2), .d (.int .u8 n3)]) :=
  RV.of_ex (x := .agg [.d (.int .u8 n0), .d (.int .u8 n1), .d (.int .u8 n2), .d (.int .u8 n3)]) rfl

theorem imageShapes_own : ownKnob Try.prog.godebug = none := by kernel_rfl
theorem imageShapes_laid : laidOutB Try.prog = true := by kernel_rfl

set_option maxRecDepth 100000 in
theorem imageShapes_lifted (os : Os) (started : os.Started) (H : Type) (enc : TypeId × Value → H) :
    ReturnsInHanded {} Try.checked os 7 .any (Rows.imageShapesSpec.pre6 enc Try.prog Try.f7 Rows.imageShapesRow.domain false) (Rows.imageShapesSpec.post enc Try.prog Try.f7 false true false false) := by
  refine returnsInHanded_of_change (C := Try.checked) imageShapes_own started (by kernel_rfl) Try.func7
    (ChangeSpec.witness6 (enc := enc) (C := Try.checked) false ⟨#[], #[.agg #[.int .u8 0, .int .u8 0, .int .u8 0, .int .u8 0, .bool false, .bool false, .slice none 0 0], .agg #[.int .u8 0, .int .u8 0, .int .u8 0, .int .u8 0, .bool false, .bool false, .slice none 0 0], .agg #[.int .u8 0, .int .u8 0, .int .u8 0, .int .i64 0, .int .u8 0, .int .u8 0, .int .u8 0, .int .i64 0], .bool false, .agg #[.int .i64 0, .int .i64 0, .int .i64 0, .int .i64 0], .agg #[.int .u8 0, .int .u8 0, .int .u8 0, .int .u8 0]], []⟩ 8 (by kernel_rfl) (by kernel_rfl) (by kernel_rfl) (by kernel_rfl)) ?_
  intro W base args ds gs before hval0 hW hcnd _
  have hval : ∀ (j : Nat) t v, Try.f7.params[j]? = some t → args[j]? = some v → Value.okWide Try.prog W .any base t v := hval0
  have hW' := hW
  obtain ⟨p, q, hA0, hV, rfl, hfz, hnd⟩ := hW
  have hA : DataW.TrodAll enc Try.prog W 0 (fun _ => true) true Try.f7.params.toList args.toList ds p := hA0
  rw [Try.params7] at hA hval
  obtain ⟨v0, vs0, d0, ds0, p0, q0, hargs, rfl, rfl, h0, r0⟩ := trodAll_cons hA
  obtain ⟨v1, vs1, d1, ds1, p1, q1, rfl, rfl, rfl, h1, r1⟩ := trodAll_cons r0
  obtain ⟨v2, vs2, d2, ds2, p2, q2, rfl, rfl, rfl, h2, r2⟩ := trodAll_cons r1
  obtain ⟨v3, vs3, d3, ds3, p3, q3, rfl, rfl, rfl, h3, r3⟩ := trodAll_cons r2
  obtain ⟨v4, vs4, d4, ds4, p4, q4, rfl, rfl, rfl, h4, r4⟩ := trodAll_cons r3
  obtain ⟨v5, vs5, d5, ds5, p5, q5, rfl, rfl, rfl, h5, r5⟩ := trodAll_cons r4
  obtain ⟨rfl, rfl, rfl⟩ := trodAll_nil r5
  obtain rfl : args = #[v0, v1, v2, v3, v4, v5] := by cases args; simp_all
  obtain ⟨rfl, rfl⟩ := trodVars_none hV
  obtain ⟨D, a, cap, rfl, hD, hvs⟩ := open_dr (hval 0 _ v0 rfl rfl) h0
  obtain ⟨D2, a2, cap2, rfl, hD2, hvs2⟩ := open_dr (hval 1 _ v1 rfl rfl) h1
  obtain ⟨b0, b1, rfl, hb0, hb1⟩ := open_bends (hval 2 _ v2 rfl rfl) h2
  obtain ⟨pl, rfl⟩ := open_bool (hval 3 _ v3 rfl rfl) h3
  obtain ⟨q0, q1, q2, q3, rfl, hq0, hq1, hq2, hq3⟩ := open_i64x4 (hval 4 _ v4 rfl rfl) h4
  obtain ⟨y0, y1, y2, y3, rfl, hy0, hy1, hy2, hy3⟩ := open_u8x4 (hval 5 _ v5 rfl rfl) h5
  clear hA0 hval0
  refine (law_calls (shapes_core D D2 hD hD2 b0 b1 _ _ _ hb0 hb1 rfl rfl rfl _ rfl pl q0 q1 q2 q3 y0 y1 y2 y3 hy0 hy1 hy2 hy3) rfl (rvC (dr_rv hvs) (rvC (dr_rv hvs2) (rvC bends_rv (rvC pl_rv (rvC q4_rv (rvC y4_rv rv0))))))).mono fun e W' ⟨he, hw⟩ => ?_
  subst he
  exact ⟨_, rfl, law_post hW' rfl imageShapes_laid (by rw [Try.params7]; intro t ht; simp only [List.mem_cons, List.not_mem_nil, or_false] at ht; rcases ht with rfl | rfl | rfl | rfl | rfl | rfl <;> exact ⟨by kernel_rfl, of_decide_eq_true (by kernel_rfl)⟩) (bt := 4) rfl Try.underlying4 rfl rfl rfl hw⟩

theorem imageShapes_holds : Rows.ImageShapesSaid :=
  OpenClaim.holds_of_wide 7 Try.f7 rfl rfl rfl rfl rfl rfl rfl ⟨rfl, rfl, rfl, rfl, rfl⟩ rfl rfl rfl rfl rfl (by kernel_rfl) Try.func7 (by kernel_rfl)
    (of_decide_eq_true (by kernel_rfl)) (by unfold Func.isWrapper; first | (rw [if_pos (by decide +kernel)]; kernel_rfl) | (rw [if_neg (by decide +kernel)]; exact ⟨rfl, rfl⟩))
    (fun os started H enc _ => imageShapes_lifted os started H enc)

end Go.Proofs.Ytphfbjeaklpddaa
