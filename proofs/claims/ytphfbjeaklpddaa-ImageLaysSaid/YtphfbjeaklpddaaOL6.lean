/-
  Joined texts: Layer 42: Shape. · Layer 42: Shape. · Layer 42: Shape. · Layer 42: what each function answers, as one law. · Layer 42, the reference: zeros, there, sample. · slices.Equal of two slices of ints. · Layer 42, for the statements: an image in a variable; six. · Layer 42, the reference: Right. · A region that draws its order: its first n operations are quiet in a class of worlds (call · Layer 42, the reference: Check, Stride, Make. · Layer 42, the plain law: an image as a layout and a function of its samples.
-/
import Derived.Test.YtphfbjeaklpddaaOL5
import Derived.Test.YtphfbjeaklpddaaOL4
import Derived.Test.YtphfbjeaklpddaaOL3
import Derived.OrdersHeld
import Derived.Deep.RegionHeld3
import Derived.StillTail
set_option linter.unusedSimpArgs false
set_option linter.unusedVariables false

/- Layer 42: Shape. -/
namespace Go.Proofs.Ytphfbjeaklpddaa
open Go.RowKit Go.Shelf

attribute [local go_sem] Oper.semAt_some

set_option maxRecDepth 100000 in
set_option maxHeartbeats 4000000 in
theorem shape_ok3 (L : Lay) (O : ByteArray) (bits : Int) (planar : Bool) (pad : Int) (w : World) (hn : L.valid O) (hm : Shp L.W L.H L.C bits pad) (h1 : (bits == L.B) = false) (h4 : ¬ L.B < bits) (h5 : bits < L.B) :
    Calls Try.prog 25 #[L.img O, .int .i64 bits, .bool planar, .int .i64 pad] w fun e w' => e = .returned (.tuple #[(L.lay bits planar pad).img (octS (L.lay bits planar pad).len.toNat ((L.lay bits planar pad).octF fun a b c => chg3 (L.fn O a b c))), .int .i64 0]) ∧ Below w.heap.size w w' := by
  have HO := fun w => open_ok L O w hn
  have HB := fun w => blank_good (L.lay bits planar pad) ⟨#[]⟩ w hm
  unfold Lay.img Lay.lay at HB
  unfold Lay.img at HO ⊢
  have HO' := Lib.hid HO
  have HB' := Lib.hid HB
  have hok := hn.1
  clear HO HB
  refine calls_marks 3 Try.func25 rfl ?_
  simp only [Try.ntmps25, List.size_toArray, List.length_cons, List.length_nil, Nat.reduceAdd, Nat.reduceSub, Array.replicate_succ, Array.replicate_zero, List.push_toArray, List.append_toArray, List.nil_append, List.cons_append]
  go_wp2_with fail
  (with_reducible refine (HO'.out _).mono ?_)
  rintro e w1 ⟨b, b2, rfl, hv, hb⟩
  obtain ⟨hc, hf, hz⟩ := after hb
  simp only [World.size_alloc] at hz
  have hx : w.heap.size < w1.heap.size := by omega
  have hx' : w.heap.size + 1 < w1.heap.size := by omega
  have hxx : w.heap.size < w1.heap.size + 1 := by omega
  have hxx' : w.heap.size + 1 < w1.heap.size + 1 := by omega
  have hxy : w.heap.size < w1.heap.size + 1 + 1 := by omega
  have hxy' : w.heap.size + 1 < w1.heap.size + 1 + 1 := by omega
  have HV := Lib.hid hv
  clear hv
  go_wp2_with fail
  (with_reducible refine (HB'.out _).mono ?_)
  rintro e w2 ⟨c, c2, rfl, hu, hb2⟩
  obtain ⟨hc2, hf2, hz2⟩ := after hb2
  simp only [World.size_alloc] at hz2
  have hx2 : w.heap.size < w2.heap.size := by omega
  have hx2' : w.heap.size + 1 < w2.heap.size := by omega
  have hy2 : w1.heap.size < w2.heap.size := by omega
  have hy2' : w1.heap.size < w2.heap.size + 1 := by omega
  have hy2'' : w1.heap.size < w2.heap.size + 1 + 1 := by omega
  have hx3 : w.heap.size < w2.heap.size + 1 := by omega
  have hx3' : w.heap.size < w2.heap.size + 1 + 1 := by omega
  have HU := Lib.hid hu
  clear hu
  go_wp2_with fail
  obtain ⟨W0, hW0⟩ : ∃ W0, W0 = (w2.alloc (.cells #[.pointer (some ⟨c, 0, none⟩)] 80)).alloc (.cells #[.func (.func 55) #[] #[]] 96) := ⟨_, rfl⟩
  have hB2 : Below w2.heap.size w2 W0 := by rw [hW0]; exact ((Below.refl _ _).alloc (Nat.le_refl _) _).alloc (by simp) _
  have hB1 : Below w1.heap.size w1 W0 := by
    refine Below.trans ?_ (hB2.mono (by omega))
    ((repeat (first | (with_reducible exact Below.refl _ _) | (with_reducible refine Below.setCell ?_ ?_ _) | (with_reducible refine Below.alloc ?_ ?_ _) | (with_reducible refine Below.drew ?_) | (with_reducible refine Below.trans ?_ (Below.mono (by assumption) ?_)))); all_goals ((try simp only [World.size_alloc, World.size_drew, World.size_setCell]); omega))
  have hs0 : W0.heap.size = w2.heap.size + 1 + 1 := by rw [hW0]; simp
  have k10 : W0.cell? ⟨w1.heap.size, 0, none⟩ = some (.pointer (some ⟨b, 0, none⟩)) := by rw [hW0]; go_simp
  have k14 : W0.cell? ⟨w2.heap.size, 0, none⟩ = some (.pointer (some ⟨c, 0, none⟩)) := by rw [hW0]; go_simp
  have k15 : W0.cell? ⟨w2.heap.size + 1, 0, none⟩ = some (.func (.func 55) #[] #[]) := by rw [hW0]; go_simp
  have hcc := HU.out.b1
  have hcc2 := HU.out.b2
  have hbl := HV.out.lt
  have hbl2 := HV.out.lt2 hok
  have hcl := HU.out.lt
  have hcl2 := HU.out.lt2 hm
  simp only [World.size_alloc] at hcc hcc2
  have hVs := HV.out.below hok hB1
  have hVt := HU.out.below hm hB2
  have KB1 := Lib.hid hB1
  have KB2 := Lib.hid hB2
  have KVS := Lib.hid hVs
  have KVT := Lib.hid hVt
  have K10 := Lib.hid k10
  have K14 := Lib.hid k14
  have K15 := Lib.hid k15
  rw [← hW0]
  have HW0 := Lib.hid hW0
  clear hW0 hB1 hB2 hVs hVt k10 k14 k15
  have hseq := pixels_seq L hok 2 b W0 KVS.out.hd
  refine wp_rangeSeq 3 (by omega) (gf := 56) (first := #[.pointer (some ⟨b, 0, none⟩)]) (caps := #[]) rfl (enters_of Try.func56 (by kernel_rfl) rfl) hseq (fun _ => rfl) (fun h k => k.trans h)
    (fun W l o o' hl _ _ => World.putObj_heap_other (by omega))
    (fun k W => View W w.heap.size c c2 (L.lay bits planar pad) ((L.lay bits planar pad).octF (shpF (L.fn O) chg3 L.W k)) ∧ Upd c2 W0 W) ?bears ?start ?act ?assign ?body ?done
  case assign =>
    intro l x W K hK
    unfold pencs
    gi_wp2
    exact hK
  case bears =>
    exact ⟨fun k W o h => ⟨h.1.below hm ((Below.refl _ _).alloc (Nat.le_refl _) _), h.2.trans (Upd.of_below ((Below.refl _ _).alloc (Nat.le_refl _) _))⟩,
      fun k W l o o' h hl ho hc => ⟨h.1.put hm o' ho hc, h.2.put o' hl⟩⟩
  case start =>
    refine ⟨(KVT.out.weaken (by simp only [World.size_alloc]; omega)).congr fun p p0 p1 => ?_, Upd.refl _ _⟩
    rw [← Lay.octF_zero (L.lay bits planar pad) p]
    exact Lay.octF_congr (L.lay bits planar pad) hm (fun a b' c' hd => (shpF_zero _ _ _ _ _ _ hd.1.1 hd.2.1.1 (by have := hok.w1; omega)).symm) p0 p1
  case body =>
    rintro l k ⟨x, y⟩ W hx ⟨hvt, hU⟩
    have hkx := pxl_of hx
    obtain ⟨hkk, hxw, hyh⟩ := hkx
    have hs0' := hs0
    have c10 : W.cell? ⟨w1.heap.size, 0, none⟩ = some (.pointer (some ⟨b, 0, none⟩)) := (hU.cell (p := ⟨w1.heap.size, 0, none⟩) (by show w1.heap.size < _; omega) (by show w1.heap.size ≠ _; omega)).trans K10.out
    have c14 : W.cell? ⟨w2.heap.size, 0, none⟩ = some (.pointer (some ⟨c, 0, none⟩)) := (hU.cell (p := ⟨w2.heap.size, 0, none⟩) (by show w2.heap.size < _; omega) (by show w2.heap.size ≠ _; omega)).trans K14.out
    have c15 : W.cell? ⟨w2.heap.size + 1, 0, none⟩ = some (.func (.func 55) #[] #[]) := (hU.cell (p := ⟨w2.heap.size + 1, 0, none⟩) (by show w2.heap.size + 1 < _; omega) (by show w2.heap.size + 1 ≠ _; omega)).trans K15.out
    have hsrc := KVS.out.upd hok hU (by omega) (by omega)
    have HP := Lib.hid (pixel_any L hok _ b b2 (octAt O) (octAt_range O) x y W hsrc (by omega) (by omega) (by omega) (by omega))
    clear hs0'
    obtain ⟨cn, hcn⟩ : ∃ cn, cn = L.C.toNat := ⟨_, rfl⟩
    rw [← hcn] at HP
    have hc1 := hok.c1
    have hc2' := hok.c2
    have hcn4 : cn ≤ 4 := by omega
    have hrng : ∀ j, 0 ≤ L.fn O x y j ∧ L.fn O x y j < 65536 := fun j => by
      have := L.smp_bd hok (octAt O) (octAt_range O) x y j
      refine ⟨this.1, Int.lt_of_lt_of_le this.2 ?_⟩
      split <;> omega
    have hlc2 := hvt.lt2 hm
    have HVT := Lib.hid hvt
    have HUW := Lib.hid hU
    have HCN := Lib.hid hcn
    have HRNG := Lib.hid hrng
    have HKK := Lib.hid hkk
    clear hvt hU hcn hrng hkk hsrc
    gi_wp2_with fail
    refine ⟨trivial, ?_⟩
    refine CallsIn.mono (CallsIn.inRound l (callsIn_wide.2 HP.out)) ?_
    rintro e w3 ⟨b3, cap3, rfl, hi3, hz3, hl3, hb3⟩
    obtain ⟨W2, hW2⟩ : ∃ W2, W2 = w3.alloc (.cells #[.slice (some ⟨b3, 0, none⟩) cn cap3] 44) := ⟨_, rfl⟩
    have hW2b : Below w3.heap.size w3 W2 := by rw [hW2]; exact (Below.refl _ _).alloc (Nat.le_refl _) _
    have hb32 : Below W.heap.size W W2 := hb3.trans (hW2b.mono hb3.size)
    have hsW2 : W2.heap.size = w3.heap.size + 1 := by rw [hW2]; simp
    have hszw := hb3.size
    have d14 : W2.cell? ⟨w2.heap.size, 0, none⟩ = some (.pointer (some ⟨c, 0, none⟩)) := (hb32.cell (p := ⟨w2.heap.size, 0, none⟩) (World.block_lt_of_cell? _ _ c14)).trans c14
    have d15 : W2.cell? ⟨w2.heap.size + 1, 0, none⟩ = some (.func (.func 55) #[] #[]) := (hb32.cell (p := ⟨w2.heap.size + 1, 0, none⟩) (World.block_lt_of_cell? _ _ c15)).trans c15
    have d18 : W2.cell? ⟨w3.heap.size, 0, none⟩ = some (.slice (some ⟨b3, 0, none⟩) cn cap3) := by rw [hW2]; go_simp
    have hi3' : Ints W2 (some ⟨b3, 0, none⟩) ((List.range cn).map fun i => L.fn O x y (i : Nat)) := hi3.below hW2b
    have hmd : ∀ V, Below W2.heap.size W2 V → Calls Try.prog 57 #[.int .i64 cn, .func (.func 58) #[] #[.pointer (some ⟨w2.heap.size + 1, 0, none⟩), .pointer (some ⟨w3.heap.size, 0, none⟩)]] V (MadePost (fun j => chg3 (L.fn O x y j)) cn V) := fun V hV =>
      made_58 cn (by omega) _ _ (fun j => chg3 (L.fn O x y j)) V (fun j V' hj hV' => by
        have hVV : Below W2.heap.size W2 V' := hV.trans (hV'.mono hV.size)
        have hcell : V'.cell? ⟨b3, 0 + j, none⟩ = some (.int .i64 (L.fn O x y j)) := by
          obtain ⟨bq, oq, vq, hq1, hq2, hq3⟩ := (hi3'.below hVV).at (k := j) (by simpa using hj)
          cases hq1
          have := hq3.out
          simp [hj] at this
          rw [hq2, ← this]
        exact shp4_3 _ _ b3 0 cn cap3 j _ V' hj hcn4 ((hVV.cell (p := ⟨w2.heap.size + 1, 0, none⟩) (World.block_lt_of_cell? _ _ d15)).trans d15) ((hVV.cell (p := ⟨w3.heap.size, 0, none⟩) (World.block_lt_of_cell? _ _ d18)).trans d18) hcell (HRNG.out j).1 (HRNG.out j).2)
    have hpt : ∀ V b4 cap4, Ints V (some ⟨b4, 0, none⟩) ((List.range cn).map fun j => chg3 (L.fn O x y (j : Nat))) → Below W2.heap.size W2 V → W2.heap.size ≤ b4 →
        Calls Try.prog 51 #[.pointer (some ⟨c, 0, none⟩), .int .i64 x, .int .i64 y, .slice (some ⟨b4, 0, none⟩) cn cap4] V (PutPost (L.lay bits planar pad) w.heap.size c c2 (shpF (L.fn O) chg3 L.W k) x y ((List.range cn).map fun j => chg3 (L.fn O x y (j : Nat))) V) := fun V b4 cap4 hiV hV hb4 => by
      have hlen : ((List.range cn).map fun j => chg3 (L.fn O x y (j : Nat))).length = cn := by simp
      have := put_any (L.lay bits planar pad) hm w.heap.size c c2 (shpF (L.fn O) chg3 L.W k) x y _ (some ⟨b4, 0, none⟩) cap4 V ((HVT.out.below hm hb32).below hm hV) (by omega) (by show (x : Int) < L.W; omega) (by omega) (by show (y : Int) < L.H; omega) hiV (by rw [hlen]; show (cn : Int) ≤ L.C; have := HCN.out; omega) (fun c' off e => by cases e; omega)
      rw [hlen] at this
      exact this
    have HMD := Lib.hid hmd
    have HPT := Lib.hid hpt
    have HB32 := Lib.hid hb32
    clear hmd hpt hi3 hi3' hb3 hb32 hW2b c10 c14 c15
    gi_wp2_with fail
    rw [← hW2]
    have HW2 := Lib.hid hW2
    clear hW2
    refine wpIn_round_held l _ (by kernel_rfl) (by kernel_rfl) (by rintro ⟨_, _, h⟩; exact h) (S := fun V => V.cell? ⟨w2.heap.size, 0, none⟩ = some (.pointer (some ⟨c, 0, none⟩)) ∧ V.cell? ⟨w3.heap.size, 0, none⟩ = some (.slice (some ⟨b3, 0, none⟩) cn cap3)) ⟨d14, d18⟩ (fun hHeld => ?_)
    refine wpAnyH_take (i := 0) (v := .pointer (some ⟨c, 0, none⟩)) rfl (by kernel_rfl) (by kernel_rfl) (by kernel_rfl) (fun _ _ _ h => h) (Or.inl ⟨by rfl, ?_⟩) hHeld ?_
    · intro V hV
      obtain ⟨hV1, hV2⟩ := hV
      go_simp
    simp only [Act.put, List.setIfInBounds_toArray, List.set_cons_zero, List.set_cons_succ]
    refine wpAnyH_take (i := 1) (v := .int .i64 x) rfl (by kernel_rfl) (by kernel_rfl) (by kernel_rfl) (fun _ _ _ h => h) (Or.inl ⟨by rfl, ?_⟩) hHeld ?_
    · intro V hV
      obtain ⟨hV1, hV2⟩ := hV
      go_simp
    simp only [Act.put, List.setIfInBounds_toArray, List.set_cons_zero, List.set_cons_succ]
    refine wpAnyH_take (i := 2) (v := .int .i64 y) rfl (by kernel_rfl) (by kernel_rfl) (by kernel_rfl) (fun _ _ _ h => h) (Or.inl ⟨by rfl, ?_⟩) hHeld ?_
    · intro V hV
      obtain ⟨hV1, hV2⟩ := hV
      go_simp
    simp only [Act.put, List.setIfInBounds_toArray, List.set_cons_zero, List.set_cons_succ]
    refine wpAnyH_take (i := 3) (v := .slice (some ⟨b3, 0, none⟩) cn cap3) rfl (by kernel_rfl) (by kernel_rfl) (by kernel_rfl) (fun _ _ _ h => h) (Or.inl ⟨by rfl, ?_⟩) hHeld ?_
    · intro V hV
      obtain ⟨hV1, hV2⟩ := hV
      go_simp
    simp only [Act.put, List.setIfInBounds_toArray, List.set_cons_zero, List.set_cons_succ]
    refine wpAnyH_take (i := 4) (v := .int .i64 cn) rfl (by kernel_rfl) (by kernel_rfl) (by kernel_rfl) (fun _ _ _ h => h) (Or.inl ⟨by rfl, ?_⟩) hHeld ?_
    · intro V hV
      obtain ⟨hV1, hV2⟩ := hV
      go_simp
    simp only [Act.put, List.setIfInBounds_toArray, List.set_cons_zero, List.set_cons_succ]
    refine wpAnyH_take (i := 5) (v := .func (.func 58) #[] #[.pointer (some ⟨w2.heap.size + 1, 0, none⟩), .pointer (some ⟨w3.heap.size, 0, none⟩)]) rfl (by kernel_rfl) (by kernel_rfl) (by kernel_rfl) (fun _ _ _ h => h) (Or.inl ⟨by rfl, ?_⟩) hHeld ?_
    · intro V hV
      obtain ⟨hV1, hV2⟩ := hV
      go_simp
    simp only [Act.put, List.setIfInBounds_toArray, List.set_cons_zero, List.set_cons_succ]
    refine wpAnyH_ready (rs := [6]) (by kernel_rfl) (by simp) ?_
    refine AllReadyH.cons rfl (fun K hK => ?_) AllReadyH.nil
    go_simp
    (with_reducible refine (HMD.out _ (Below.drew (Below.refl _ _))).mono ?_)
    rintro e w4 ⟨b4, cap4, rfl, hi4, hb4, hl4, hbw4⟩
    have hbw4' : Below W2.heap.size W2 w4 := (Below.drew (Below.refl _ _)).trans hbw4
    have e14 : w4.cell? ⟨w2.heap.size, 0, none⟩ = some (.pointer (some ⟨c, 0, none⟩)) := (hbw4'.cell (p := ⟨w2.heap.size, 0, none⟩) (World.block_lt_of_cell? _ _ d14)).trans d14
    have e18 : w4.cell? ⟨w3.heap.size, 0, none⟩ = some (.slice (some ⟨b3, 0, none⟩) cn cap3) := (hbw4'.cell (p := ⟨w3.heap.size, 0, none⟩) (World.block_lt_of_cell? _ _ d18)).trans d18
    have HH := HPT.out w4 b4 cap4 hi4 hbw4' hb4
    have HHD := Lib.hid HH
    have HBW4 := Lib.hid hbw4'
    clear HH hi4 hb4 hl4 hbw4 hbw4' hHeld
    refine hK.out _ _ ⟨e14, e18⟩ (fun hHeld => ?_)
    clear hK
    try simp only [Act.put, List.setIfInBounds_toArray, List.set_cons_zero, List.set_cons_succ]
    refine wpAnyH_ready (rs := [7]) (by kernel_rfl) (by simp) ?_
    refine AllReadyH.cons rfl (fun K hK => ?_) AllReadyH.nil
    go_simp
    (with_reducible refine HHD.out.mono ?_)
    rintro e w5 ⟨rfl, hv5, hu5⟩
    have hu5' : Upd c2 W w5 := (Upd.of_below HB32.out).trans ((Upd.of_below HBW4.out).trans hu5)
    have hlt14 := World.block_lt_of_cell? _ _ d14
    have hcl2' := HU.out.lt2 hm
    have e14' : w5.cell? ⟨w2.heap.size, 0, none⟩ = some (.pointer (some ⟨c, 0, none⟩)) := (hu5.cell (p := ⟨w2.heap.size, 0, none⟩) (World.block_lt_of_cell? _ _ e14) (by show w2.heap.size ≠ _; omega)).trans e14
    have e18' : w5.cell? ⟨w3.heap.size, 0, none⟩ = some (.slice (some ⟨b3, 0, none⟩) cn cap3) := (hu5.cell (p := ⟨w3.heap.size, 0, none⟩) (World.block_lt_of_cell? _ _ e18) (by show w3.heap.size ≠ _; omega)).trans e18
    refine hK.out _ _ ⟨e14', e18'⟩ (fun _ => ?_)
    clear hK
    refine wpAnyH_done (by kernel_rfl) ?_ _
    have hbne : b ≠ c2 := by have := KB1.out.size; omega
    have hKp : w5.heap[b]? = W.heap[b]? := hu5'.block b (by have := HUW.out.size; have := KB1.out.size; omega) hbne
    show KeepsOthers W w5 ∧ w5.heap[b]? = W.heap[b]? ∧ (View w5 w.heap.size c c2 (L.lay bits planar pad) ((L.lay bits planar pad).octF (shpF (L.fn O) chg3 L.W (k + 1))) ∧ Upd c2 W0 w5)
    refine ⟨Upd.others hu5' (HVT.out.bt 0 (by have := (L.lay bits planar pad).len_bd hm; omega)).1, hKp, hv5.congr fun p p0 p1 => ?_, HUW.out.trans hu5'⟩
    refine Lay.octF_congr (L.lay bits planar pad) hm (fun a b' c' hd => ?_) p0 p1
    exact shpF_put' (L.fn O) chg3 L.W (by omega) x y k HKK.out hxw cn a b' c' hd.1.1 hd.1.2 hd.2.1.1 hd.2.2.1 (by have := HCN.out; have h := hd.2.2.2; have : c' < L.C := h; omega)
  case done =>
    rintro D W hD ⟨hvt, hU⟩ hdd
    have hvd : View W w.heap.size c c2 (L.lay bits planar pad) ((L.lay bits planar pad).octF fun a b c => chg3 (L.fn O a b c)) := by
      refine hvt.congr fun p p0 p1 => ?_
      refine Lay.octF_congr (L.lay bits planar pad) hm (fun a b' c' hd => ?_) p0 p1
      rw [pxl_length]
      exact shpF_full (L.fn O) chg3 L.W L.H a b' c' hd.1.1 hd.1.2 hd.2.1.1 hd.2.1.2
    have hCL := closed_any (L.lay bits planar pad) hm w.heap.size c c2 _ W hvd
    have c14 : W.cell? ⟨w2.heap.size, 0, none⟩ = some (.pointer (some ⟨c, 0, none⟩)) := (hU.cell (p := ⟨w2.heap.size, 0, none⟩) (by show w2.heap.size < _; omega) (by show w2.heap.size ≠ _; omega)).trans K14.out
    unfold Lay.img at hCL
    have HCL := Lib.hid hCL
    have HUW := Lib.hid hU
    have HDD := Lib.hid hdd
    have HVD := Lib.hid hvd
    clear hvt hU hdd hCL hvd
    show Exit.inBlock _ _ _ _ _
    go_wp2_with fail
    (with_reducible refine HCL.out.mono ?_)
    rintro e w6 ⟨rfl, hu6⟩
    have hDD := HDD.out
    have hD1 : D < W.heap.size := (Array.getElem?_eq_some_iff.1 hDD).1
    have hd6 : w6.heap[D]? = some (.deferred (some [])) := (hu6.block D hD1 (by omega)).trans hDD
    have huu : Upd c2 W0 W := HUW.out
    have hszW := huu.size
    have k8 : ∀ o, w6.cell? ⟨w.heap.size + 1, o, none⟩ = w1.cell? ⟨w.heap.size + 1, o, none⟩ := fun o =>
      (hu6.cell (p := ⟨w.heap.size + 1, o, none⟩) (by show w.heap.size + 1 < _; omega) (by show w.heap.size + 1 ≠ _; omega)).trans
        ((huu.cell (p := ⟨w.heap.size + 1, o, none⟩) (by show w.heap.size + 1 < _; omega) (by show w.heap.size + 1 ≠ _; omega)).trans
          (KB1.out.cell (p := ⟨w.heap.size + 1, o, none⟩) hx'))
    have f8 : ∀ o, w6.frozen? ⟨w.heap.size + 1, o, none⟩ = w1.frozen? ⟨w.heap.size + 1, o, none⟩ := fun o =>
      (hu6.frozen (p := ⟨w.heap.size + 1, o, none⟩) (by show w.heap.size + 1 < _; omega) (by show w.heap.size + 1 ≠ _; omega)).trans
        ((huu.frozen (p := ⟨w.heap.size + 1, o, none⟩) (by show w.heap.size + 1 < _; omega) (by show w.heap.size + 1 ≠ _; omega)).trans
          (KB1.out.frozen (p := ⟨w.heap.size + 1, o, none⟩) hx'))
    clear hDD
    have HD6 := Lib.hid hd6
    clear hd6
    go_wp2_with fail
    have hne8 : D ≠ w.heap.size + 1 := by omega
    refine ⟨by simp, .inl ⟨_, _, rfl, run_takeDeferred (ds := []) ?_, ?_⟩⟩
    · have hsc : ∀ (V : World) o u, (V.setCell ⟨w.heap.size + 1, o, none⟩ u).heap[D]? = V.heap[D]? := fun V o u => Below.heap_setCell V ⟨w.heap.size + 1, o, none⟩ u D hne8
      simp only [hsc]
      exact HD6.out
    have hput : ∀ (V : World) (ob : Obj) o, (V.putObj D ob).cell? ⟨w.heap.size + 1, o, none⟩ = V.cell? ⟨w.heap.size + 1, o, none⟩ := fun V ob o => World.cell?_of_block (a := ⟨w.heap.size + 1, o, none⟩) (World.putObj_heap_other hne8.symm)
    refine ⟨.tuple #[(L.lay bits planar pad).img (octS (L.lay bits planar pad).len.toNat ((L.lay bits planar pad).octF fun a b c => chg3 (L.fn O a b c))), .int .i64 0], ?_, rfl, ?_⟩
    · simp [results, Try.results25, go_sem, hput, k8, hc, hx, hx', Lay.img]
    · have g1 : Below w.heap.size w w1 := by
        ((repeat (first | (with_reducible exact Below.refl _ _) | (with_reducible refine Below.setCell ?_ ?_ _) | (with_reducible refine Below.alloc ?_ ?_ _) | (with_reducible refine Below.drew ?_) | (with_reducible refine Below.trans ?_ (Below.mono (by assumption) ?_)))); all_goals ((try simp only [World.size_alloc, World.size_drew, World.size_setCell]); omega))
      have g2 : Below w.heap.size w W0 := g1.trans (KB1.out.mono (by omega))
      have g3 : Below w.heap.size w W := g2.trans (HUW.out.below (by omega) (by omega))
      have g4 : Below w.heap.size w w6 := g3.trans (hu6.below (by omega) (by omega))
      refine Below.putObj ?_ (by omega) _
      ((repeat (first | (with_reducible exact Below.refl _ _) | (with_reducible refine Below.setCell ?_ ?_ _) | (with_reducible refine Below.alloc ?_ ?_ _) | (with_reducible refine Below.drew ?_) | (with_reducible refine Below.trans ?_ (Below.mono (by assumption) ?_)))); all_goals ((try simp only [World.size_alloc, World.size_drew, World.size_setCell]); omega))

end Go.Proofs.Ytphfbjeaklpddaa

/- Layer 42: Shape. -/
namespace Go.Proofs.Ytphfbjeaklpddaa
open Go.RowKit Go.Shelf

attribute [local go_sem] Oper.semAt_some

set_option maxRecDepth 100000 in
set_option maxHeartbeats 4000000 in
theorem shape_ok1a (L : Lay) (O : ByteArray) (bits : Int) (planar : Bool) (pad : Int) (w : World) (hn : L.valid O) (hm : Shp L.W L.H L.C bits pad) (h1 : (bits == L.B) = true) (h4 : ¬ L.B < bits) (h5 : ¬ bits < L.B) (h2 : (planar == L.pl) = false) :
    Calls Try.prog 25 #[L.img O, .int .i64 bits, .bool planar, .int .i64 pad] w fun e w' => e = .returned (.tuple #[(L.lay bits planar pad).img (octS (L.lay bits planar pad).len.toNat ((L.lay bits planar pad).octF fun a b c => chg1 (L.fn O a b c))), .int .i64 0]) ∧ Below w.heap.size w w' := by
  have HO := fun w => open_ok L O w hn
  have HB := fun w => blank_good (L.lay bits planar pad) ⟨#[]⟩ w hm
  unfold Lay.img Lay.lay at HB
  unfold Lay.img at HO ⊢
  have HO' := Lib.hid HO
  have HB' := Lib.hid HB
  have hok := hn.1
  clear HO HB
  refine calls_marks 3 Try.func25 rfl ?_
  simp only [Try.ntmps25, List.size_toArray, List.length_cons, List.length_nil, Nat.reduceAdd, Nat.reduceSub, Array.replicate_succ, Array.replicate_zero, List.push_toArray, List.append_toArray, List.nil_append, List.cons_append]
  go_wp2_with fail
  (with_reducible refine (HO'.out _).mono ?_)
  rintro e w1 ⟨b, b2, rfl, hv, hb⟩
  obtain ⟨hc, hf, hz⟩ := after hb
  simp only [World.size_alloc] at hz
  have hx : w.heap.size < w1.heap.size := by omega
  have hx' : w.heap.size + 1 < w1.heap.size := by omega
  have hxx : w.heap.size < w1.heap.size + 1 := by omega
  have hxx' : w.heap.size + 1 < w1.heap.size + 1 := by omega
  have hxy : w.heap.size < w1.heap.size + 1 + 1 := by omega
  have hxy' : w.heap.size + 1 < w1.heap.size + 1 + 1 := by omega
  have HV := Lib.hid hv
  clear hv
  go_wp2_with fail
  (with_reducible refine (HB'.out _).mono ?_)
  rintro e w2 ⟨c, c2, rfl, hu, hb2⟩
  obtain ⟨hc2, hf2, hz2⟩ := after hb2
  simp only [World.size_alloc] at hz2
  have hx2 : w.heap.size < w2.heap.size := by omega
  have hx2' : w.heap.size + 1 < w2.heap.size := by omega
  have hy2 : w1.heap.size < w2.heap.size := by omega
  have hy2' : w1.heap.size < w2.heap.size + 1 := by omega
  have hy2'' : w1.heap.size < w2.heap.size + 1 + 1 := by omega
  have hx3 : w.heap.size < w2.heap.size + 1 := by omega
  have hx3' : w.heap.size < w2.heap.size + 1 + 1 := by omega
  have HU := Lib.hid hu
  clear hu
  go_wp2_with fail
  obtain ⟨W0, hW0⟩ : ∃ W0, W0 = (w2.alloc (.cells #[.pointer (some ⟨c, 0, none⟩)] 80)).alloc (.cells #[.func (.func 53) #[] #[]] 96) := ⟨_, rfl⟩
  have hB2 : Below w2.heap.size w2 W0 := by rw [hW0]; exact ((Below.refl _ _).alloc (Nat.le_refl _) _).alloc (by simp) _
  have hB1 : Below w1.heap.size w1 W0 := by
    refine Below.trans ?_ (hB2.mono (by omega))
    ((repeat (first | (with_reducible exact Below.refl _ _) | (with_reducible refine Below.setCell ?_ ?_ _) | (with_reducible refine Below.alloc ?_ ?_ _) | (with_reducible refine Below.drew ?_) | (with_reducible refine Below.trans ?_ (Below.mono (by assumption) ?_)))); all_goals ((try simp only [World.size_alloc, World.size_drew, World.size_setCell]); omega))
  have hs0 : W0.heap.size = w2.heap.size + 1 + 1 := by rw [hW0]; simp
  have k10 : W0.cell? ⟨w1.heap.size, 0, none⟩ = some (.pointer (some ⟨b, 0, none⟩)) := by rw [hW0]; go_simp
  have k14 : W0.cell? ⟨w2.heap.size, 0, none⟩ = some (.pointer (some ⟨c, 0, none⟩)) := by rw [hW0]; go_simp
  have k15 : W0.cell? ⟨w2.heap.size + 1, 0, none⟩ = some (.func (.func 53) #[] #[]) := by rw [hW0]; go_simp
  have hcc := HU.out.b1
  have hcc2 := HU.out.b2
  have hbl := HV.out.lt
  have hbl2 := HV.out.lt2 hok
  have hcl := HU.out.lt
  have hcl2 := HU.out.lt2 hm
  simp only [World.size_alloc] at hcc hcc2
  have hVs := HV.out.below hok hB1
  have hVt := HU.out.below hm hB2
  have KB1 := Lib.hid hB1
  have KB2 := Lib.hid hB2
  have KVS := Lib.hid hVs
  have KVT := Lib.hid hVt
  have K10 := Lib.hid k10
  have K14 := Lib.hid k14
  have K15 := Lib.hid k15
  rw [← hW0]
  have HW0 := Lib.hid hW0
  clear hW0 hB1 hB2 hVs hVt k10 k14 k15
  have hseq := pixels_seq L hok 2 b W0 KVS.out.hd
  refine wp_rangeSeq 3 (by omega) (gf := 56) (first := #[.pointer (some ⟨b, 0, none⟩)]) (caps := #[]) rfl (enters_of Try.func56 (by kernel_rfl) rfl) hseq (fun _ => rfl) (fun h k => k.trans h)
    (fun W l o o' hl _ _ => World.putObj_heap_other (by omega))
    (fun k W => View W w.heap.size c c2 (L.lay bits planar pad) ((L.lay bits planar pad).octF (shpF (L.fn O) chg1 L.W k)) ∧ Upd c2 W0 W) ?bears ?start ?act ?assign ?body ?done
  case assign =>
    intro l x W K hK
    unfold pencs
    gi_wp2
    exact hK
  case bears =>
    exact ⟨fun k W o h => ⟨h.1.below hm ((Below.refl _ _).alloc (Nat.le_refl _) _), h.2.trans (Upd.of_below ((Below.refl _ _).alloc (Nat.le_refl _) _))⟩,
      fun k W l o o' h hl ho hc => ⟨h.1.put hm o' ho hc, h.2.put o' hl⟩⟩
  case start =>
    refine ⟨(KVT.out.weaken (by simp only [World.size_alloc]; omega)).congr fun p p0 p1 => ?_, Upd.refl _ _⟩
    rw [← Lay.octF_zero (L.lay bits planar pad) p]
    exact Lay.octF_congr (L.lay bits planar pad) hm (fun a b' c' hd => (shpF_zero _ _ _ _ _ _ hd.1.1 hd.2.1.1 (by have := hok.w1; omega)).symm) p0 p1
  case body =>
    rintro l k ⟨x, y⟩ W hx ⟨hvt, hU⟩
    have hkx := pxl_of hx
    obtain ⟨hkk, hxw, hyh⟩ := hkx
    have hs0' := hs0
    have c10 : W.cell? ⟨w1.heap.size, 0, none⟩ = some (.pointer (some ⟨b, 0, none⟩)) := (hU.cell (p := ⟨w1.heap.size, 0, none⟩) (by show w1.heap.size < _; omega) (by show w1.heap.size ≠ _; omega)).trans K10.out
    have c14 : W.cell? ⟨w2.heap.size, 0, none⟩ = some (.pointer (some ⟨c, 0, none⟩)) := (hU.cell (p := ⟨w2.heap.size, 0, none⟩) (by show w2.heap.size < _; omega) (by show w2.heap.size ≠ _; omega)).trans K14.out
    have c15 : W.cell? ⟨w2.heap.size + 1, 0, none⟩ = some (.func (.func 53) #[] #[]) := (hU.cell (p := ⟨w2.heap.size + 1, 0, none⟩) (by show w2.heap.size + 1 < _; omega) (by show w2.heap.size + 1 ≠ _; omega)).trans K15.out
    have hsrc := KVS.out.upd hok hU (by omega) (by omega)
    have HP := Lib.hid (pixel_any L hok _ b b2 (octAt O) (octAt_range O) x y W hsrc (by omega) (by omega) (by omega) (by omega))
    clear hs0'
    obtain ⟨cn, hcn⟩ : ∃ cn, cn = L.C.toNat := ⟨_, rfl⟩
    rw [← hcn] at HP
    have hc1 := hok.c1
    have hc2' := hok.c2
    have hcn4 : cn ≤ 4 := by omega
    have hrng : ∀ j, 0 ≤ L.fn O x y j ∧ L.fn O x y j < 65536 := fun j => by
      have := L.smp_bd hok (octAt O) (octAt_range O) x y j
      refine ⟨this.1, Int.lt_of_lt_of_le this.2 ?_⟩
      split <;> omega
    have hlc2 := hvt.lt2 hm
    have HVT := Lib.hid hvt
    have HUW := Lib.hid hU
    have HCN := Lib.hid hcn
    have HRNG := Lib.hid hrng
    have HKK := Lib.hid hkk
    clear hvt hU hcn hrng hkk hsrc
    gi_wp2_with fail
    refine ⟨trivial, ?_⟩
    refine CallsIn.mono (CallsIn.inRound l (callsIn_wide.2 HP.out)) ?_
    rintro e w3 ⟨b3, cap3, rfl, hi3, hz3, hl3, hb3⟩
    obtain ⟨W2, hW2⟩ : ∃ W2, W2 = w3.alloc (.cells #[.slice (some ⟨b3, 0, none⟩) cn cap3] 44) := ⟨_, rfl⟩
    have hW2b : Below w3.heap.size w3 W2 := by rw [hW2]; exact (Below.refl _ _).alloc (Nat.le_refl _) _
    have hb32 : Below W.heap.size W W2 := hb3.trans (hW2b.mono hb3.size)
    have hsW2 : W2.heap.size = w3.heap.size + 1 := by rw [hW2]; simp
    have hszw := hb3.size
    have d14 : W2.cell? ⟨w2.heap.size, 0, none⟩ = some (.pointer (some ⟨c, 0, none⟩)) := (hb32.cell (p := ⟨w2.heap.size, 0, none⟩) (World.block_lt_of_cell? _ _ c14)).trans c14
    have d15 : W2.cell? ⟨w2.heap.size + 1, 0, none⟩ = some (.func (.func 53) #[] #[]) := (hb32.cell (p := ⟨w2.heap.size + 1, 0, none⟩) (World.block_lt_of_cell? _ _ c15)).trans c15
    have d18 : W2.cell? ⟨w3.heap.size, 0, none⟩ = some (.slice (some ⟨b3, 0, none⟩) cn cap3) := by rw [hW2]; go_simp
    have hi3' : Ints W2 (some ⟨b3, 0, none⟩) ((List.range cn).map fun i => L.fn O x y (i : Nat)) := hi3.below hW2b
    have hmd : ∀ V, Below W2.heap.size W2 V → Calls Try.prog 57 #[.int .i64 cn, .func (.func 58) #[] #[.pointer (some ⟨w2.heap.size + 1, 0, none⟩), .pointer (some ⟨w3.heap.size, 0, none⟩)]] V (MadePost (fun j => chg1 (L.fn O x y j)) cn V) := fun V hV =>
      made_58 cn (by omega) _ _ (fun j => chg1 (L.fn O x y j)) V (fun j V' hj hV' => by
        have hVV : Below W2.heap.size W2 V' := hV.trans (hV'.mono hV.size)
        have hcell : V'.cell? ⟨b3, 0 + j, none⟩ = some (.int .i64 (L.fn O x y j)) := by
          obtain ⟨bq, oq, vq, hq1, hq2, hq3⟩ := (hi3'.below hVV).at (k := j) (by simpa using hj)
          cases hq1
          have := hq3.out
          simp [hj] at this
          rw [hq2, ← this]
        exact shp4_1 _ _ b3 0 cn cap3 j _ V' hj hcn4 ((hVV.cell (p := ⟨w2.heap.size + 1, 0, none⟩) (World.block_lt_of_cell? _ _ d15)).trans d15) ((hVV.cell (p := ⟨w3.heap.size, 0, none⟩) (World.block_lt_of_cell? _ _ d18)).trans d18) hcell (HRNG.out j).1 (HRNG.out j).2)
    have hpt : ∀ V b4 cap4, Ints V (some ⟨b4, 0, none⟩) ((List.range cn).map fun j => chg1 (L.fn O x y (j : Nat))) → Below W2.heap.size W2 V → W2.heap.size ≤ b4 →
        Calls Try.prog 51 #[.pointer (some ⟨c, 0, none⟩), .int .i64 x, .int .i64 y, .slice (some ⟨b4, 0, none⟩) cn cap4] V (PutPost (L.lay bits planar pad) w.heap.size c c2 (shpF (L.fn O) chg1 L.W k) x y ((List.range cn).map fun j => chg1 (L.fn O x y (j : Nat))) V) := fun V b4 cap4 hiV hV hb4 => by
      have hlen : ((List.range cn).map fun j => chg1 (L.fn O x y (j : Nat))).length = cn := by simp
      have := put_any (L.lay bits planar pad) hm w.heap.size c c2 (shpF (L.fn O) chg1 L.W k) x y _ (some ⟨b4, 0, none⟩) cap4 V ((HVT.out.below hm hb32).below hm hV) (by omega) (by show (x : Int) < L.W; omega) (by omega) (by show (y : Int) < L.H; omega) hiV (by rw [hlen]; show (cn : Int) ≤ L.C; have := HCN.out; omega) (fun c' off e => by cases e; omega)
      rw [hlen] at this
      exact this
    have HMD := Lib.hid hmd
    have HPT := Lib.hid hpt
    have HB32 := Lib.hid hb32
    clear hmd hpt hi3 hi3' hb3 hb32 hW2b c10 c14 c15
    gi_wp2_with fail
    rw [← hW2]
    have HW2 := Lib.hid hW2
    clear hW2
    refine wpIn_round_held l _ (by kernel_rfl) (by kernel_rfl) (by rintro ⟨_, _, h⟩; exact h) (S := fun V => V.cell? ⟨w2.heap.size, 0, none⟩ = some (.pointer (some ⟨c, 0, none⟩)) ∧ V.cell? ⟨w3.heap.size, 0, none⟩ = some (.slice (some ⟨b3, 0, none⟩) cn cap3)) ⟨d14, d18⟩ (fun hHeld => ?_)
    refine wpAnyH_take (i := 0) (v := .pointer (some ⟨c, 0, none⟩)) rfl (by kernel_rfl) (by kernel_rfl) (by kernel_rfl) (fun _ _ _ h => h) (Or.inl ⟨by rfl, ?_⟩) hHeld ?_
    · intro V hV
      obtain ⟨hV1, hV2⟩ := hV
      go_simp
    simp only [Act.put, List.setIfInBounds_toArray, List.set_cons_zero, List.set_cons_succ]
    refine wpAnyH_take (i := 1) (v := .int .i64 x) rfl (by kernel_rfl) (by kernel_rfl) (by kernel_rfl) (fun _ _ _ h => h) (Or.inl ⟨by rfl, ?_⟩) hHeld ?_
    · intro V hV
      obtain ⟨hV1, hV2⟩ := hV
      go_simp
    simp only [Act.put, List.setIfInBounds_toArray, List.set_cons_zero, List.set_cons_succ]
    refine wpAnyH_take (i := 2) (v := .int .i64 y) rfl (by kernel_rfl) (by kernel_rfl) (by kernel_rfl) (fun _ _ _ h => h) (Or.inl ⟨by rfl, ?_⟩) hHeld ?_
    · intro V hV
      obtain ⟨hV1, hV2⟩ := hV
      go_simp
    simp only [Act.put, List.setIfInBounds_toArray, List.set_cons_zero, List.set_cons_succ]
    refine wpAnyH_take (i := 3) (v := .slice (some ⟨b3, 0, none⟩) cn cap3) rfl (by kernel_rfl) (by kernel_rfl) (by kernel_rfl) (fun _ _ _ h => h) (Or.inl ⟨by rfl, ?_⟩) hHeld ?_
    · intro V hV
      obtain ⟨hV1, hV2⟩ := hV
      go_simp
    simp only [Act.put, List.setIfInBounds_toArray, List.set_cons_zero, List.set_cons_succ]
    refine wpAnyH_take (i := 4) (v := .int .i64 cn) rfl (by kernel_rfl) (by kernel_rfl) (by kernel_rfl) (fun _ _ _ h => h) (Or.inl ⟨by rfl, ?_⟩) hHeld ?_
    · intro V hV
      obtain ⟨hV1, hV2⟩ := hV
      go_simp
    simp only [Act.put, List.setIfInBounds_toArray, List.set_cons_zero, List.set_cons_succ]
    refine wpAnyH_take (i := 5) (v := .func (.func 58) #[] #[.pointer (some ⟨w2.heap.size + 1, 0, none⟩), .pointer (some ⟨w3.heap.size, 0, none⟩)]) rfl (by kernel_rfl) (by kernel_rfl) (by kernel_rfl) (fun _ _ _ h => h) (Or.inl ⟨by rfl, ?_⟩) hHeld ?_
    · intro V hV
      obtain ⟨hV1, hV2⟩ := hV
      go_simp
    simp only [Act.put, List.setIfInBounds_toArray, List.set_cons_zero, List.set_cons_succ]
    refine wpAnyH_ready (rs := [6]) (by kernel_rfl) (by simp) ?_
    refine AllReadyH.cons rfl (fun K hK => ?_) AllReadyH.nil
    go_simp
    (with_reducible refine (HMD.out _ (Below.drew (Below.refl _ _))).mono ?_)
    rintro e w4 ⟨b4, cap4, rfl, hi4, hb4, hl4, hbw4⟩
    have hbw4' : Below W2.heap.size W2 w4 := (Below.drew (Below.refl _ _)).trans hbw4
    have e14 : w4.cell? ⟨w2.heap.size, 0, none⟩ = some (.pointer (some ⟨c, 0, none⟩)) := (hbw4'.cell (p := ⟨w2.heap.size, 0, none⟩) (World.block_lt_of_cell? _ _ d14)).trans d14
    have e18 : w4.cell? ⟨w3.heap.size, 0, none⟩ = some (.slice (some ⟨b3, 0, none⟩) cn cap3) := (hbw4'.cell (p := ⟨w3.heap.size, 0, none⟩) (World.block_lt_of_cell? _ _ d18)).trans d18
    have HH := HPT.out w4 b4 cap4 hi4 hbw4' hb4
    have HHD := Lib.hid HH
    have HBW4 := Lib.hid hbw4'
    clear HH hi4 hb4 hl4 hbw4 hbw4' hHeld
    refine hK.out _ _ ⟨e14, e18⟩ (fun hHeld => ?_)
    clear hK
    try simp only [Act.put, List.setIfInBounds_toArray, List.set_cons_zero, List.set_cons_succ]
    refine wpAnyH_ready (rs := [7]) (by kernel_rfl) (by simp) ?_
    refine AllReadyH.cons rfl (fun K hK => ?_) AllReadyH.nil
    go_simp
    (with_reducible refine HHD.out.mono ?_)
    rintro e w5 ⟨rfl, hv5, hu5⟩
    have hu5' : Upd c2 W w5 := (Upd.of_below HB32.out).trans ((Upd.of_below HBW4.out).trans hu5)
    have hlt14 := World.block_lt_of_cell? _ _ d14
    have hcl2' := HU.out.lt2 hm
    have e14' : w5.cell? ⟨w2.heap.size, 0, none⟩ = some (.pointer (some ⟨c, 0, none⟩)) := (hu5.cell (p := ⟨w2.heap.size, 0, none⟩) (World.block_lt_of_cell? _ _ e14) (by show w2.heap.size ≠ _; omega)).trans e14
    have e18' : w5.cell? ⟨w3.heap.size, 0, none⟩ = some (.slice (some ⟨b3, 0, none⟩) cn cap3) := (hu5.cell (p := ⟨w3.heap.size, 0, none⟩) (World.block_lt_of_cell? _ _ e18) (by show w3.heap.size ≠ _; omega)).trans e18
    refine hK.out _ _ ⟨e14', e18'⟩ (fun _ => ?_)
    clear hK
    refine wpAnyH_done (by kernel_rfl) ?_ _
    have hbne : b ≠ c2 := by have := KB1.out.size; omega
    have hKp : w5.heap[b]? = W.heap[b]? := hu5'.block b (by have := HUW.out.size; have := KB1.out.size; omega) hbne
    show KeepsOthers W w5 ∧ w5.heap[b]? = W.heap[b]? ∧ (View w5 w.heap.size c c2 (L.lay bits planar pad) ((L.lay bits planar pad).octF (shpF (L.fn O) chg1 L.W (k + 1))) ∧ Upd c2 W0 w5)
    refine ⟨Upd.others hu5' (HVT.out.bt 0 (by have := (L.lay bits planar pad).len_bd hm; omega)).1, hKp, hv5.congr fun p p0 p1 => ?_, HUW.out.trans hu5'⟩
    refine Lay.octF_congr (L.lay bits planar pad) hm (fun a b' c' hd => ?_) p0 p1
    exact shpF_put' (L.fn O) chg1 L.W (by omega) x y k HKK.out hxw cn a b' c' hd.1.1 hd.1.2 hd.2.1.1 hd.2.2.1 (by have := HCN.out; have h := hd.2.2.2; have : c' < L.C := h; omega)
  case done =>
    rintro D W hD ⟨hvt, hU⟩ hdd
    have hvd : View W w.heap.size c c2 (L.lay bits planar pad) ((L.lay bits planar pad).octF fun a b c => chg1 (L.fn O a b c)) := by
      refine hvt.congr fun p p0 p1 => ?_
      refine Lay.octF_congr (L.lay bits planar pad) hm (fun a b' c' hd => ?_) p0 p1
      rw [pxl_length]
      exact shpF_full (L.fn O) chg1 L.W L.H a b' c' hd.1.1 hd.1.2 hd.2.1.1 hd.2.1.2
    have hCL := closed_any (L.lay bits planar pad) hm w.heap.size c c2 _ W hvd
    have c14 : W.cell? ⟨w2.heap.size, 0, none⟩ = some (.pointer (some ⟨c, 0, none⟩)) := (hU.cell (p := ⟨w2.heap.size, 0, none⟩) (by show w2.heap.size < _; omega) (by show w2.heap.size ≠ _; omega)).trans K14.out
    unfold Lay.img at hCL
    have HCL := Lib.hid hCL
    have HUW := Lib.hid hU
    have HDD := Lib.hid hdd
    have HVD := Lib.hid hvd
    clear hvt hU hdd hCL hvd
    show Exit.inBlock _ _ _ _ _
    go_wp2_with fail
    (with_reducible refine HCL.out.mono ?_)
    rintro e w6 ⟨rfl, hu6⟩
    have hDD := HDD.out
    have hD1 : D < W.heap.size := (Array.getElem?_eq_some_iff.1 hDD).1
    have hd6 : w6.heap[D]? = some (.deferred (some [])) := (hu6.block D hD1 (by omega)).trans hDD
    have huu : Upd c2 W0 W := HUW.out
    have hszW := huu.size
    have k8 : ∀ o, w6.cell? ⟨w.heap.size + 1, o, none⟩ = w1.cell? ⟨w.heap.size + 1, o, none⟩ := fun o =>
      (hu6.cell (p := ⟨w.heap.size + 1, o, none⟩) (by show w.heap.size + 1 < _; omega) (by show w.heap.size + 1 ≠ _; omega)).trans
        ((huu.cell (p := ⟨w.heap.size + 1, o, none⟩) (by show w.heap.size + 1 < _; omega) (by show w.heap.size + 1 ≠ _; omega)).trans
          (KB1.out.cell (p := ⟨w.heap.size + 1, o, none⟩) hx'))
    have f8 : ∀ o, w6.frozen? ⟨w.heap.size + 1, o, none⟩ = w1.frozen? ⟨w.heap.size + 1, o, none⟩ := fun o =>
      (hu6.frozen (p := ⟨w.heap.size + 1, o, none⟩) (by show w.heap.size + 1 < _; omega) (by show w.heap.size + 1 ≠ _; omega)).trans
        ((huu.frozen (p := ⟨w.heap.size + 1, o, none⟩) (by show w.heap.size + 1 < _; omega) (by show w.heap.size + 1 ≠ _; omega)).trans
          (KB1.out.frozen (p := ⟨w.heap.size + 1, o, none⟩) hx'))
    clear hDD
    have HD6 := Lib.hid hd6
    clear hd6
    go_wp2_with fail
    have hne8 : D ≠ w.heap.size + 1 := by omega
    refine ⟨by simp, .inl ⟨_, _, rfl, run_takeDeferred (ds := []) ?_, ?_⟩⟩
    · have hsc : ∀ (V : World) o u, (V.setCell ⟨w.heap.size + 1, o, none⟩ u).heap[D]? = V.heap[D]? := fun V o u => Below.heap_setCell V ⟨w.heap.size + 1, o, none⟩ u D hne8
      simp only [hsc]
      exact HD6.out
    have hput : ∀ (V : World) (ob : Obj) o, (V.putObj D ob).cell? ⟨w.heap.size + 1, o, none⟩ = V.cell? ⟨w.heap.size + 1, o, none⟩ := fun V ob o => World.cell?_of_block (a := ⟨w.heap.size + 1, o, none⟩) (World.putObj_heap_other hne8.symm)
    refine ⟨.tuple #[(L.lay bits planar pad).img (octS (L.lay bits planar pad).len.toNat ((L.lay bits planar pad).octF fun a b c => chg1 (L.fn O a b c))), .int .i64 0], ?_, rfl, ?_⟩
    · simp [results, Try.results25, go_sem, hput, k8, hc, hx, hx', Lay.img]
    · have g1 : Below w.heap.size w w1 := by
        ((repeat (first | (with_reducible exact Below.refl _ _) | (with_reducible refine Below.setCell ?_ ?_ _) | (with_reducible refine Below.alloc ?_ ?_ _) | (with_reducible refine Below.drew ?_) | (with_reducible refine Below.trans ?_ (Below.mono (by assumption) ?_)))); all_goals ((try simp only [World.size_alloc, World.size_drew, World.size_setCell]); omega))
      have g2 : Below w.heap.size w W0 := g1.trans (KB1.out.mono (by omega))
      have g3 : Below w.heap.size w W := g2.trans (HUW.out.below (by omega) (by omega))
      have g4 : Below w.heap.size w w6 := g3.trans (hu6.below (by omega) (by omega))
      refine Below.putObj ?_ (by omega) _
      ((repeat (first | (with_reducible exact Below.refl _ _) | (with_reducible refine Below.setCell ?_ ?_ _) | (with_reducible refine Below.alloc ?_ ?_ _) | (with_reducible refine Below.drew ?_) | (with_reducible refine Below.trans ?_ (Below.mono (by assumption) ?_)))); all_goals ((try simp only [World.size_alloc, World.size_drew, World.size_setCell]); omega))

end Go.Proofs.Ytphfbjeaklpddaa

/- Layer 42: Shape. -/
namespace Go.Proofs.Ytphfbjeaklpddaa
open Go.RowKit Go.Shelf

attribute [local go_sem] Oper.semAt_some

set_option maxRecDepth 100000 in
set_option maxHeartbeats 4000000 in
theorem shape_ok1b (L : Lay) (O : ByteArray) (bits : Int) (planar : Bool) (pad : Int) (w : World) (hn : L.valid O) (hm : Shp L.W L.H L.C bits pad) (h1 : (bits == L.B) = true) (h4 : ¬ L.B < bits) (h5 : ¬ bits < L.B) (h2 : (planar == L.pl) = true) (h3 : (pad == L.P) = false) :
    Calls Try.prog 25 #[L.img O, .int .i64 bits, .bool planar, .int .i64 pad] w fun e w' => e = .returned (.tuple #[(L.lay bits planar pad).img (octS (L.lay bits planar pad).len.toNat ((L.lay bits planar pad).octF fun a b c => chg1 (L.fn O a b c))), .int .i64 0]) ∧ Below w.heap.size w w' := by
  have HO := fun w => open_ok L O w hn
  have HB := fun w => blank_good (L.lay bits planar pad) ⟨#[]⟩ w hm
  unfold Lay.img Lay.lay at HB
  unfold Lay.img at HO ⊢
  have HO' := Lib.hid HO
  have HB' := Lib.hid HB
  have hok := hn.1
  clear HO HB
  refine calls_marks 3 Try.func25 rfl ?_
  simp only [Try.ntmps25, List.size_toArray, List.length_cons, List.length_nil, Nat.reduceAdd, Nat.reduceSub, Array.replicate_succ, Array.replicate_zero, List.push_toArray, List.append_toArray, List.nil_append, List.cons_append]
  go_wp2_with fail
  (with_reducible refine (HO'.out _).mono ?_)
  rintro e w1 ⟨b, b2, rfl, hv, hb⟩
  obtain ⟨hc, hf, hz⟩ := after hb
  simp only [World.size_alloc] at hz
  have hx : w.heap.size < w1.heap.size := by omega
  have hx' : w.heap.size + 1 < w1.heap.size := by omega
  have hxx : w.heap.size < w1.heap.size + 1 := by omega
  have hxx' : w.heap.size + 1 < w1.heap.size + 1 := by omega
  have hxy : w.heap.size < w1.heap.size + 1 + 1 := by omega
  have hxy' : w.heap.size + 1 < w1.heap.size + 1 + 1 := by omega
  have HV := Lib.hid hv
  clear hv
  go_wp2_with fail
  (with_reducible refine (HB'.out _).mono ?_)
  rintro e w2 ⟨c, c2, rfl, hu, hb2⟩
  obtain ⟨hc2, hf2, hz2⟩ := after hb2
  simp only [World.size_alloc] at hz2
  have hx2 : w.heap.size < w2.heap.size := by omega
  have hx2' : w.heap.size + 1 < w2.heap.size := by omega
  have hy2 : w1.heap.size < w2.heap.size := by omega
  have hy2' : w1.heap.size < w2.heap.size + 1 := by omega
  have hy2'' : w1.heap.size < w2.heap.size + 1 + 1 := by omega
  have hx3 : w.heap.size < w2.heap.size + 1 := by omega
  have hx3' : w.heap.size < w2.heap.size + 1 + 1 := by omega
  have HU := Lib.hid hu
  clear hu
  go_wp2_with fail
  obtain ⟨W0, hW0⟩ : ∃ W0, W0 = (w2.alloc (.cells #[.pointer (some ⟨c, 0, none⟩)] 80)).alloc (.cells #[.func (.func 53) #[] #[]] 96) := ⟨_, rfl⟩
  have hB2 : Below w2.heap.size w2 W0 := by rw [hW0]; exact ((Below.refl _ _).alloc (Nat.le_refl _) _).alloc (by simp) _
  have hB1 : Below w1.heap.size w1 W0 := by
    refine Below.trans ?_ (hB2.mono (by omega))
    ((repeat (first | (with_reducible exact Below.refl _ _) | (with_reducible refine Below.setCell ?_ ?_ _) | (with_reducible refine Below.alloc ?_ ?_ _) | (with_reducible refine Below.drew ?_) | (with_reducible refine Below.trans ?_ (Below.mono (by assumption) ?_)))); all_goals ((try simp only [World.size_alloc, World.size_drew, World.size_setCell]); omega))
  have hs0 : W0.heap.size = w2.heap.size + 1 + 1 := by rw [hW0]; simp
  have k10 : W0.cell? ⟨w1.heap.size, 0, none⟩ = some (.pointer (some ⟨b, 0, none⟩)) := by rw [hW0]; go_simp
  have k14 : W0.cell? ⟨w2.heap.size, 0, none⟩ = some (.pointer (some ⟨c, 0, none⟩)) := by rw [hW0]; go_simp
  have k15 : W0.cell? ⟨w2.heap.size + 1, 0, none⟩ = some (.func (.func 53) #[] #[]) := by rw [hW0]; go_simp
  have hcc := HU.out.b1
  have hcc2 := HU.out.b2
  have hbl := HV.out.lt
  have hbl2 := HV.out.lt2 hok
  have hcl := HU.out.lt
  have hcl2 := HU.out.lt2 hm
  simp only [World.size_alloc] at hcc hcc2
  have hVs := HV.out.below hok hB1
  have hVt := HU.out.below hm hB2
  have KB1 := Lib.hid hB1
  have KB2 := Lib.hid hB2
  have KVS := Lib.hid hVs
  have KVT := Lib.hid hVt
  have K10 := Lib.hid k10
  have K14 := Lib.hid k14
  have K15 := Lib.hid k15
  rw [← hW0]
  have HW0 := Lib.hid hW0
  clear hW0 hB1 hB2 hVs hVt k10 k14 k15
  have hseq := pixels_seq L hok 2 b W0 KVS.out.hd
  refine wp_rangeSeq 3 (by omega) (gf := 56) (first := #[.pointer (some ⟨b, 0, none⟩)]) (caps := #[]) rfl (enters_of Try.func56 (by kernel_rfl) rfl) hseq (fun _ => rfl) (fun h k => k.trans h)
    (fun W l o o' hl _ _ => World.putObj_heap_other (by omega))
    (fun k W => View W w.heap.size c c2 (L.lay bits planar pad) ((L.lay bits planar pad).octF (shpF (L.fn O) chg1 L.W k)) ∧ Upd c2 W0 W) ?bears ?start ?act ?assign ?body ?done
  case assign =>
    intro l x W K hK
    unfold pencs
    gi_wp2
    exact hK
  case bears =>
    exact ⟨fun k W o h => ⟨h.1.below hm ((Below.refl _ _).alloc (Nat.le_refl _) _), h.2.trans (Upd.of_below ((Below.refl _ _).alloc (Nat.le_refl _) _))⟩,
      fun k W l o o' h hl ho hc => ⟨h.1.put hm o' ho hc, h.2.put o' hl⟩⟩
  case start =>
    refine ⟨(KVT.out.weaken (by simp only [World.size_alloc]; omega)).congr fun p p0 p1 => ?_, Upd.refl _ _⟩
    rw [← Lay.octF_zero (L.lay bits planar pad) p]
    exact Lay.octF_congr (L.lay bits planar pad) hm (fun a b' c' hd => (shpF_zero _ _ _ _ _ _ hd.1.1 hd.2.1.1 (by have := hok.w1; omega)).symm) p0 p1
  case body =>
    rintro l k ⟨x, y⟩ W hx ⟨hvt, hU⟩
    have hkx := pxl_of hx
    obtain ⟨hkk, hxw, hyh⟩ := hkx
    have hs0' := hs0
    have c10 : W.cell? ⟨w1.heap.size, 0, none⟩ = some (.pointer (some ⟨b, 0, none⟩)) := (hU.cell (p := ⟨w1.heap.size, 0, none⟩) (by show w1.heap.size < _; omega) (by show w1.heap.size ≠ _; omega)).trans K10.out
    have c14 : W.cell? ⟨w2.heap.size, 0, none⟩ = some (.pointer (some ⟨c, 0, none⟩)) := (hU.cell (p := ⟨w2.heap.size, 0, none⟩) (by show w2.heap.size < _; omega) (by show w2.heap.size ≠ _; omega)).trans K14.out
    have c15 : W.cell? ⟨w2.heap.size + 1, 0, none⟩ = some (.func (.func 53) #[] #[]) := (hU.cell (p := ⟨w2.heap.size + 1, 0, none⟩) (by show w2.heap.size + 1 < _; omega) (by show w2.heap.size + 1 ≠ _; omega)).trans K15.out
    have hsrc := KVS.out.upd hok hU (by omega) (by omega)
    have HP := Lib.hid (pixel_any L hok _ b b2 (octAt O) (octAt_range O) x y W hsrc (by omega) (by omega) (by omega) (by omega))
    clear hs0'
    obtain ⟨cn, hcn⟩ : ∃ cn, cn = L.C.toNat := ⟨_, rfl⟩
    rw [← hcn] at HP
    have hc1 := hok.c1
    have hc2' := hok.c2
    have hcn4 : cn ≤ 4 := by omega
    have hrng : ∀ j, 0 ≤ L.fn O x y j ∧ L.fn O x y j < 65536 := fun j => by
      have := L.smp_bd hok (octAt O) (octAt_range O) x y j
      refine ⟨this.1, Int.lt_of_lt_of_le this.2 ?_⟩
      split <;> omega
    have hlc2 := hvt.lt2 hm
    have HVT := Lib.hid hvt
    have HUW := Lib.hid hU
    have HCN := Lib.hid hcn
    have HRNG := Lib.hid hrng
    have HKK := Lib.hid hkk
    clear hvt hU hcn hrng hkk hsrc
    gi_wp2_with fail
    refine ⟨trivial, ?_⟩
    refine CallsIn.mono (CallsIn.inRound l (callsIn_wide.2 HP.out)) ?_
    rintro e w3 ⟨b3, cap3, rfl, hi3, hz3, hl3, hb3⟩
    obtain ⟨W2, hW2⟩ : ∃ W2, W2 = w3.alloc (.cells #[.slice (some ⟨b3, 0, none⟩) cn cap3] 44) := ⟨_, rfl⟩
    have hW2b : Below w3.heap.size w3 W2 := by rw [hW2]; exact (Below.refl _ _).alloc (Nat.le_refl _) _
    have hb32 : Below W.heap.size W W2 := hb3.trans (hW2b.mono hb3.size)
    have hsW2 : W2.heap.size = w3.heap.size + 1 := by rw [hW2]; simp
    have hszw := hb3.size
    have d14 : W2.cell? ⟨w2.heap.size, 0, none⟩ = some (.pointer (some ⟨c, 0, none⟩)) := (hb32.cell (p := ⟨w2.heap.size, 0, none⟩) (World.block_lt_of_cell? _ _ c14)).trans c14
    have d15 : W2.cell? ⟨w2.heap.size + 1, 0, none⟩ = some (.func (.func 53) #[] #[]) := (hb32.cell (p := ⟨w2.heap.size + 1, 0, none⟩) (World.block_lt_of_cell? _ _ c15)).trans c15
    have d18 : W2.cell? ⟨w3.heap.size, 0, none⟩ = some (.slice (some ⟨b3, 0, none⟩) cn cap3) := by rw [hW2]; go_simp
    have hi3' : Ints W2 (some ⟨b3, 0, none⟩) ((List.range cn).map fun i => L.fn O x y (i : Nat)) := hi3.below hW2b
    have hmd : ∀ V, Below W2.heap.size W2 V → Calls Try.prog 57 #[.int .i64 cn, .func (.func 58) #[] #[.pointer (some ⟨w2.heap.size + 1, 0, none⟩), .pointer (some ⟨w3.heap.size, 0, none⟩)]] V (MadePost (fun j => chg1 (L.fn O x y j)) cn V) := fun V hV =>
      made_58 cn (by omega) _ _ (fun j => chg1 (L.fn O x y j)) V (fun j V' hj hV' => by
        have hVV : Below W2.heap.size W2 V' := hV.trans (hV'.mono hV.size)
        have hcell : V'.cell? ⟨b3, 0 + j, none⟩ = some (.int .i64 (L.fn O x y j)) := by
          obtain ⟨bq, oq, vq, hq1, hq2, hq3⟩ := (hi3'.below hVV).at (k := j) (by simpa using hj)
          cases hq1
          have := hq3.out
          simp [hj] at this
          rw [hq2, ← this]
        exact shp4_1 _ _ b3 0 cn cap3 j _ V' hj hcn4 ((hVV.cell (p := ⟨w2.heap.size + 1, 0, none⟩) (World.block_lt_of_cell? _ _ d15)).trans d15) ((hVV.cell (p := ⟨w3.heap.size, 0, none⟩) (World.block_lt_of_cell? _ _ d18)).trans d18) hcell (HRNG.out j).1 (HRNG.out j).2)
    have hpt : ∀ V b4 cap4, Ints V (some ⟨b4, 0, none⟩) ((List.range cn).map fun j => chg1 (L.fn O x y (j : Nat))) → Below W2.heap.size W2 V → W2.heap.size ≤ b4 →
        Calls Try.prog 51 #[.pointer (some ⟨c, 0, none⟩), .int .i64 x, .int .i64 y, .slice (some ⟨b4, 0, none⟩) cn cap4] V (PutPost (L.lay bits planar pad) w.heap.size c c2 (shpF (L.fn O) chg1 L.W k) x y ((List.range cn).map fun j => chg1 (L.fn O x y (j : Nat))) V) := fun V b4 cap4 hiV hV hb4 => by
      have hlen : ((List.range cn).map fun j => chg1 (L.fn O x y (j : Nat))).length = cn := by simp
      have := put_any (L.lay bits planar pad) hm w.heap.size c c2 (shpF (L.fn O) chg1 L.W k) x y _ (some ⟨b4, 0, none⟩) cap4 V ((HVT.out.below hm hb32).below hm hV) (by omega) (by show (x : Int) < L.W; omega) (by omega) (by show (y : Int) < L.H; omega) hiV (by rw [hlen]; show (cn : Int) ≤ L.C; have := HCN.out; omega) (fun c' off e => by cases e; omega)
      rw [hlen] at this
      exact this
    have HMD := Lib.hid hmd
    have HPT := Lib.hid hpt
    have HB32 := Lib.hid hb32
    clear hmd hpt hi3 hi3' hb3 hb32 hW2b c10 c14 c15
    gi_wp2_with fail
    rw [← hW2]
    have HW2 := Lib.hid hW2
    clear hW2
    refine wpIn_round_held l _ (by kernel_rfl) (by kernel_rfl) (by rintro ⟨_, _, h⟩; exact h) (S := fun V => V.cell? ⟨w2.heap.size, 0, none⟩ = some (.pointer (some ⟨c, 0, none⟩)) ∧ V.cell? ⟨w3.heap.size, 0, none⟩ = some (.slice (some ⟨b3, 0, none⟩) cn cap3)) ⟨d14, d18⟩ (fun hHeld => ?_)
    refine wpAnyH_take (i := 0) (v := .pointer (some ⟨c, 0, none⟩)) rfl (by kernel_rfl) (by kernel_rfl) (by kernel_rfl) (fun _ _ _ h => h) (Or.inl ⟨by rfl, ?_⟩) hHeld ?_
    · intro V hV
      obtain ⟨hV1, hV2⟩ := hV
      go_simp
    simp only [Act.put, List.setIfInBounds_toArray, List.set_cons_zero, List.set_cons_succ]
    refine wpAnyH_take (i := 1) (v := .int .i64 x) rfl (by kernel_rfl) (by kernel_rfl) (by kernel_rfl) (fun _ _ _ h => h) (Or.inl ⟨by rfl, ?_⟩) hHeld ?_
    · intro V hV
      obtain ⟨hV1, hV2⟩ := hV
      go_simp
    simp only [Act.put, List.setIfInBounds_toArray, List.set_cons_zero, List.set_cons_succ]
    refine wpAnyH_take (i := 2) (v := .int .i64 y) rfl (by kernel_rfl) (by kernel_rfl) (by kernel_rfl) (fun _ _ _ h => h) (Or.inl ⟨by rfl, ?_⟩) hHeld ?_
    · intro V hV
      obtain ⟨hV1, hV2⟩ := hV
      go_simp
    simp only [Act.put, List.setIfInBounds_toArray, List.set_cons_zero, List.set_cons_succ]
    refine wpAnyH_take (i := 3) (v := .slice (some ⟨b3, 0, none⟩) cn cap3) rfl (by kernel_rfl) (by kernel_rfl) (by kernel_rfl) (fun _ _ _ h => h) (Or.inl ⟨by rfl, ?_⟩) hHeld ?_
    · intro V hV
      obtain ⟨hV1, hV2⟩ := hV
      go_simp
    simp only [Act.put, List.setIfInBounds_toArray, List.set_cons_zero, List.set_cons_succ]
    refine wpAnyH_take (i := 4) (v := .int .i64 cn) rfl (by kernel_rfl) (by kernel_rfl) (by kernel_rfl) (fun _ _ _ h => h) (Or.inl ⟨by rfl, ?_⟩) hHeld ?_
    · intro V hV
      obtain ⟨hV1, hV2⟩ := hV
      go_simp
    simp only [Act.put, List.setIfInBounds_toArray, List.set_cons_zero, List.set_cons_succ]
    refine wpAnyH_take (i := 5) (v := .func (.func 58) #[] #[.pointer (some ⟨w2.heap.size + 1, 0, none⟩), .pointer (some ⟨w3.heap.size, 0, none⟩)]) rfl (by kernel_rfl) (by kernel_rfl) (by kernel_rfl) (fun _ _ _ h => h) (Or.inl ⟨by rfl, ?_⟩) hHeld ?_
    · intro V hV
      obtain ⟨hV1, hV2⟩ := hV
      go_simp
    simp only [Act.put, List.setIfInBounds_toArray, List.set_cons_zero, List.set_cons_succ]
    refine wpAnyH_ready (rs := [6]) (by kernel_rfl) (by simp) ?_
    refine AllReadyH.cons rfl (fun K hK => ?_) AllReadyH.nil
    go_simp
    (with_reducible refine (HMD.out _ (Below.drew (Below.refl _ _))).mono ?_)
    rintro e w4 ⟨b4, cap4, rfl, hi4, hb4, hl4, hbw4⟩
    have hbw4' : Below W2.heap.size W2 w4 := (Below.drew (Below.refl _ _)).trans hbw4
    have e14 : w4.cell? ⟨w2.heap.size, 0, none⟩ = some (.pointer (some ⟨c, 0, none⟩)) := (hbw4'.cell (p := ⟨w2.heap.size, 0, none⟩) (World.block_lt_of_cell? _ _ d14)).trans d14
    have e18 : w4.cell? ⟨w3.heap.size, 0, none⟩ = some (.slice (some ⟨b3, 0, none⟩) cn cap3) := (hbw4'.cell (p := ⟨w3.heap.size, 0, none⟩) (World.block_lt_of_cell? _ _ d18)).trans d18
    have HH := HPT.out w4 b4 cap4 hi4 hbw4' hb4
    have HHD := Lib.hid HH
    have HBW4 := Lib.hid hbw4'
    clear HH hi4 hb4 hl4 hbw4 hbw4' hHeld
    refine hK.out _ _ ⟨e14, e18⟩ (fun hHeld => ?_)
    clear hK
    try simp only [Act.put, List.setIfInBounds_toArray, List.set_cons_zero, List.set_cons_succ]
    refine wpAnyH_ready (rs := [7]) (by kernel_rfl) (by simp) ?_
    refine AllReadyH.cons rfl (fun K hK => ?_) AllReadyH.nil
    go_simp
    (with_reducible refine HHD.out.mono ?_)
    rintro e w5 ⟨rfl, hv5, hu5⟩
    have hu5' : Upd c2 W w5 := (Upd.of_below HB32.out).trans ((Upd.of_below HBW4.out).trans hu5)
    have hlt14 := World.block_lt_of_cell? _ _ d14
    have hcl2' := HU.out.lt2 hm
    have e14' : w5.cell? ⟨w2.heap.size, 0, none⟩ = some (.pointer (some ⟨c, 0, none⟩)) := (hu5.cell (p := ⟨w2.heap.size, 0, none⟩) (World.block_lt_of_cell? _ _ e14) (by show w2.heap.size ≠ _; omega)).trans e14
    have e18' : w5.cell? ⟨w3.heap.size, 0, none⟩ = some (.slice (some ⟨b3, 0, none⟩) cn cap3) := (hu5.cell (p := ⟨w3.heap.size, 0, none⟩) (World.block_lt_of_cell? _ _ e18) (by show w3.heap.size ≠ _; omega)).trans e18
    refine hK.out _ _ ⟨e14', e18'⟩ (fun _ => ?_)
    clear hK
    refine wpAnyH_done (by kernel_rfl) ?_ _
    have hbne : b ≠ c2 := by have := KB1.out.size; omega
    have hKp : w5.heap[b]? = W.heap[b]? := hu5'.block b (by have := HUW.out.size; have := KB1.out.size; omega) hbne
    show KeepsOthers W w5 ∧ w5.heap[b]? = W.heap[b]? ∧ (View w5 w.heap.size c c2 (L.lay bits planar pad) ((L.lay bits planar pad).octF (shpF (L.fn O) chg1 L.W (k + 1))) ∧ Upd c2 W0 w5)
    refine ⟨Upd.others hu5' (HVT.out.bt 0 (by have := (L.lay bits planar pad).len_bd hm; omega)).1, hKp, hv5.congr fun p p0 p1 => ?_, HUW.out.trans hu5'⟩
    refine Lay.octF_congr (L.lay bits planar pad) hm (fun a b' c' hd => ?_) p0 p1
    exact shpF_put' (L.fn O) chg1 L.W (by omega) x y k HKK.out hxw cn a b' c' hd.1.1 hd.1.2 hd.2.1.1 hd.2.2.1 (by have := HCN.out; have h := hd.2.2.2; have : c' < L.C := h; omega)
  case done =>
    rintro D W hD ⟨hvt, hU⟩ hdd
    have hvd : View W w.heap.size c c2 (L.lay bits planar pad) ((L.lay bits planar pad).octF fun a b c => chg1 (L.fn O a b c)) := by
      refine hvt.congr fun p p0 p1 => ?_
      refine Lay.octF_congr (L.lay bits planar pad) hm (fun a b' c' hd => ?_) p0 p1
      rw [pxl_length]
      exact shpF_full (L.fn O) chg1 L.W L.H a b' c' hd.1.1 hd.1.2 hd.2.1.1 hd.2.1.2
    have hCL := closed_any (L.lay bits planar pad) hm w.heap.size c c2 _ W hvd
    have c14 : W.cell? ⟨w2.heap.size, 0, none⟩ = some (.pointer (some ⟨c, 0, none⟩)) := (hU.cell (p := ⟨w2.heap.size, 0, none⟩) (by show w2.heap.size < _; omega) (by show w2.heap.size ≠ _; omega)).trans K14.out
    unfold Lay.img at hCL
    have HCL := Lib.hid hCL
    have HUW := Lib.hid hU
    have HDD := Lib.hid hdd
    have HVD := Lib.hid hvd
    clear hvt hU hdd hCL hvd
    show Exit.inBlock _ _ _ _ _
    go_wp2_with fail
    (with_reducible refine HCL.out.mono ?_)
    rintro e w6 ⟨rfl, hu6⟩
    have hDD := HDD.out
    have hD1 : D < W.heap.size := (Array.getElem?_eq_some_iff.1 hDD).1
    have hd6 : w6.heap[D]? = some (.deferred (some [])) := (hu6.block D hD1 (by omega)).trans hDD
    have huu : Upd c2 W0 W := HUW.out
    have hszW := huu.size
    have k8 : ∀ o, w6.cell? ⟨w.heap.size + 1, o, none⟩ = w1.cell? ⟨w.heap.size + 1, o, none⟩ := fun o =>
      (hu6.cell (p := ⟨w.heap.size + 1, o, none⟩) (by show w.heap.size + 1 < _; omega) (by show w.heap.size + 1 ≠ _; omega)).trans
        ((huu.cell (p := ⟨w.heap.size + 1, o, none⟩) (by show w.heap.size + 1 < _; omega) (by show w.heap.size + 1 ≠ _; omega)).trans
          (KB1.out.cell (p := ⟨w.heap.size + 1, o, none⟩) hx'))
    have f8 : ∀ o, w6.frozen? ⟨w.heap.size + 1, o, none⟩ = w1.frozen? ⟨w.heap.size + 1, o, none⟩ := fun o =>
      (hu6.frozen (p := ⟨w.heap.size + 1, o, none⟩) (by show w.heap.size + 1 < _; omega) (by show w.heap.size + 1 ≠ _; omega)).trans
        ((huu.frozen (p := ⟨w.heap.size + 1, o, none⟩) (by show w.heap.size + 1 < _; omega) (by show w.heap.size + 1 ≠ _; omega)).trans
          (KB1.out.frozen (p := ⟨w.heap.size + 1, o, none⟩) hx'))
    clear hDD
    have HD6 := Lib.hid hd6
    clear hd6
    go_wp2_with fail
    have hne8 : D ≠ w.heap.size + 1 := by omega
    refine ⟨by simp, .inl ⟨_, _, rfl, run_takeDeferred (ds := []) ?_, ?_⟩⟩
    · have hsc : ∀ (V : World) o u, (V.setCell ⟨w.heap.size + 1, o, none⟩ u).heap[D]? = V.heap[D]? := fun V o u => Below.heap_setCell V ⟨w.heap.size + 1, o, none⟩ u D hne8
      simp only [hsc]
      exact HD6.out
    have hput : ∀ (V : World) (ob : Obj) o, (V.putObj D ob).cell? ⟨w.heap.size + 1, o, none⟩ = V.cell? ⟨w.heap.size + 1, o, none⟩ := fun V ob o => World.cell?_of_block (a := ⟨w.heap.size + 1, o, none⟩) (World.putObj_heap_other hne8.symm)
    refine ⟨.tuple #[(L.lay bits planar pad).img (octS (L.lay bits planar pad).len.toNat ((L.lay bits planar pad).octF fun a b c => chg1 (L.fn O a b c))), .int .i64 0], ?_, rfl, ?_⟩
    · simp [results, Try.results25, go_sem, hput, k8, hc, hx, hx', Lay.img]
    · have g1 : Below w.heap.size w w1 := by
        ((repeat (first | (with_reducible exact Below.refl _ _) | (with_reducible refine Below.setCell ?_ ?_ _) | (with_reducible refine Below.alloc ?_ ?_ _) | (with_reducible refine Below.drew ?_) | (with_reducible refine Below.trans ?_ (Below.mono (by assumption) ?_)))); all_goals ((try simp only [World.size_alloc, World.size_drew, World.size_setCell]); omega))
      have g2 : Below w.heap.size w W0 := g1.trans (KB1.out.mono (by omega))
      have g3 : Below w.heap.size w W := g2.trans (HUW.out.below (by omega) (by omega))
      have g4 : Below w.heap.size w w6 := g3.trans (hu6.below (by omega) (by omega))
      refine Below.putObj ?_ (by omega) _
      ((repeat (first | (with_reducible exact Below.refl _ _) | (with_reducible refine Below.setCell ?_ ?_ _) | (with_reducible refine Below.alloc ?_ ?_ _) | (with_reducible refine Below.drew ?_) | (with_reducible refine Below.trans ?_ (Below.mono (by assumption) ?_)))); all_goals ((try simp only [World.size_alloc, World.size_drew, World.size_setCell]); omega))

end Go.Proofs.Ytphfbjeaklpddaa

/- Layer 42: what each function answers, as one law. -/
namespace Go.Proofs.Ytphfbjeaklpddaa
open Go.RowKit

/-- an image: its layout and its octets -/
structure Im where
  L : Lay
  O : ByteArray

def Im.v (I : Im) : Value := I.L.img I.O
def Im.z : Im := ⟨⟨0, 0, 0, 0, false, 0⟩, ⟨#[]⟩⟩
theorem Im.z_v : Im.z.v = zimg := rfl

def Lay.vB (L : Lay) (O : ByteArray) : Bool :=
  shpB L.W L.H L.C L.B L.P && (decide ((O.size : Int) = L.len) && (List.range O.size).all fun p => decide ((p : Int) % L.str < L.row) || decide (octAt O p = 0))
def Im.vB (I : Im) : Bool := I.L.vB I.O

theorem Lay.vB_iff (L : Lay) (O : ByteArray) : L.vB O = true ↔ L.valid O := by
  unfold Lay.vB Lay.valid Lay.ok Lay.pad
  simp only [Bool.and_eq_true, shpB_iff, decide_eq_true_eq, List.all_eq_true, List.mem_range, Bool.or_eq_true]
  refine and_congr_right fun h1 => and_congr_right fun h2 => ⟨fun h p p0 p1 hp => ?_, fun h p hp => ?_⟩
  · obtain ⟨q, rfl⟩ := Int.eq_ofNat_of_zero_le p0
    rcases h q (by omega) with h3 | h3
    · exact absurd hp (by omega)
    · exact h3
  · by_cases hq : (p : Int) % L.str < L.row
    · exact .inl hq
    · exact .inr (h p (by omega) (by omega) (by omega))

def chkR (I : Im) : Int := if I.vB then 0 else 420
def strR (I : Im) : Int × Int := if I.vB then (I.L.str, 0) else (0, 420)
def makR (L : Lay) : Im × Int := if shpB L.W L.H L.C L.B L.P then (⟨L, octS L.len.toNat fun _ => 0⟩, 0) else (Im.z, 2)
def getR (I : Im) (x y : Int) : List Int × Int :=
  if I.vB then (if thereB I.L x y then ((List.range I.L.C.toNat).map fun c => I.L.fn I.O x y (c : Nat), 0) else ([], 2)) else ([], 420)
def setR (I : Im) (x y : Int) (xs : List Int) : Im × Int :=
  if I.vB then
    if thereB I.L x y && (decide ((xs.length : Int) = I.L.C) && rngB I.L xs) then (⟨I.L, octS I.L.len.toNat (I.L.octF (putF (I.L.fn I.O) x y xs xs.length))⟩, 0) else (Im.z, 2)
  else (Im.z, 420)
def chgT (f t v : Int) : Int := if f < t then 257 * v else if t < f then (v + 128) / 257 else v
def Im.lay (I : Im) (bits : Int) (pl : Bool) (pad : Int) : Im :=
  ⟨I.L.lay bits pl pad, octS (I.L.lay bits pl pad).len.toNat ((I.L.lay bits pl pad).octF fun a b c => chgT I.L.B bits (I.L.fn I.O a b c))⟩
def shpR (I : Im) (bits : Int) (pl : Bool) (pad : Int) : Im × Int :=
  if I.vB then
    if decide (bits = I.L.B) && ((pl == I.L.pl) && decide (pad = I.L.P)) then (I, 0)
    else if shpB I.L.W I.L.H I.L.C bits pad then (I.lay bits pl pad, 0) else (Im.z, 2)
  else (Im.z, 420)
def cutR (I : Im) (x y wide high : Int) : Im × Int :=
  if I.vB then
    if inB wide 1 I.L.W && (inB high 1 I.L.H && insB I.L x y wide high) then
      (⟨I.L.part wide high, octS (I.L.part wide high).len.toNat ((I.L.part wide high).octF (cpyF (I.L.fn I.O) (fun _ _ _ => 0) x y 0 0 high wide 0))⟩, 0)
    else (Im.z, 2)
  else (Im.z, 420)
def pasR (I J : Im) (x y : Int) : Im × Int :=
  if I.vB && J.vB then
    if decide (I.L.C = J.L.C) && (decide (I.L.B = J.L.B) && insB I.L x y J.L.W J.L.H) then
      (⟨I.L, octS I.L.len.toNat (I.L.octF (cpyF (J.L.fn J.O) (I.L.fn I.O) 0 0 x y J.L.H J.L.W 0))⟩, 0)
    else (Im.z, 2)
  else (Im.z, 420)

/-- an image and an error -/
def ImPost (R : Im × Int) (w : World) : Ending → World → Prop := fun e w' => e = .returned (.tuple #[R.1.v, .int .i64 R.2]) ∧ Below w.heap.size w w'
/-- numbers and an error -/
def IntsPost (R : List Int × Int) (w : World) : Ending → World → Prop := fun e w' =>
  ∃ (a : Option Addr) (cap : Nat), e = .returned (.tuple #[.slice a R.1.length cap, .int .i64 R.2]) ∧ Ints w' a R.1 ∧ (∀ c off, a = some ⟨c, off, none⟩ → w.heap.size ≤ c) ∧ Below w.heap.size w w'

theorem Ints_nil (w : World) : Ints w none [] := fun h => absurd rfl h
theorem vB_no {I : Im} (h : I.vB = false) : ¬ I.L.valid I.O := by
  rw [← Lay.vB_iff]
  unfold Im.vB at h
  rw [h]
  simp
theorem vB_yes {I : Im} (h : I.vB = true) : I.L.valid I.O := (Lay.vB_iff _ _).1 h

theorem Img_check (I : Im) (w : World) : Calls Try.prog 15 #[I.v] w fun e w' => e = .returned (.int .i64 (chkR I)) ∧ Below w.heap.size w w' := by
  unfold chkR
  cases h : I.vB
  · exact check_bad I.L I.O w (vB_no h)
  · exact check_ok I.L I.O w (vB_yes h)

theorem Img_stride (I : Im) (w : World) : Calls Try.prog 13 #[I.v] w fun e w' => e = .returned (.tuple #[.int .i64 (strR I).1, .int .i64 (strR I).2]) ∧ Below w.heap.size w w' := by
  unfold strR
  cases h : I.vB
  · exact stride_bad I.L I.O w (vB_no h)
  · exact stride_ok I.L I.O w (vB_yes h)

theorem Img_make (L : Lay) (w : World) : Calls Try.prog 17 #[.int .i64 L.W, .int .i64 L.H, .int .i64 L.C, .int .i64 L.B, .bool L.pl, .int .i64 L.P] w (ImPost (makR L) w) := by
  unfold makR
  cases h : shpB L.W L.H L.C L.B L.P
  · exact make_bad L.W L.H L.C L.B L.pl L.P w h
  · exact make_ok L w ((shpB_iff _ _ _ _ _).1 h)

theorem Img_get (I : Im) (x y : Int) (w : World) : Calls Try.prog 19 #[I.v, .int .i64 x, .int .i64 y] w (IntsPost (getR I x y) w) := by
  unfold getR
  cases h : I.vB
  · refine (get_bad I.L I.O x y w (vB_no h)).mono ?_
    rintro e w' ⟨rfl, hb⟩
    exact ⟨none, 0, rfl, Ints_nil _, (by simp), hb⟩
  · cases ht : thereB I.L x y
    · refine (get_none I.L I.O x y w (vB_yes h) ht).mono ?_
      rintro e w' ⟨rfl, hb⟩
      exact ⟨none, 0, rfl, Ints_nil _, (by simp), hb⟩
    · refine (get_ok I.L I.O x y w (vB_yes h) ht).mono ?_
      rintro e w' ⟨b, cap, rfl, hi, hbz, hbl, hb⟩
      exact ⟨some ⟨b, 0, none⟩, cap, by simp, hi, by rintro c off h; cases h; exact hbz, hb⟩

theorem Img_set (I : Im) (x y : Int) (xs : List Int) (a : Option Addr) (cap : Nat) (w : World) (hxs : Ints w a xs) (hl : xs.length ≤ maxLen) :
    Calls Try.prog 22 #[I.v, .int .i64 x, .int .i64 y, .slice a xs.length cap] w (ImPost (setR I x y xs) w) := by
  unfold setR
  cases h : I.vB
  · exact set_bad I.L I.O x y xs a cap w (vB_no h)
  · have hv := vB_yes h
    cases ht : thereB I.L x y
    · exact set_none I.L I.O x y xs a cap w hv ht
    · by_cases hlen : (xs.length : Int) = I.L.C
      · have hlen' : ((xs.length : Int) != I.L.C) = false := by simp [hlen]
        rcases I.L.n_cases hv.1 with ⟨_, hB⟩ | ⟨_, hB⟩
        · cases hr : rngB I.L xs
          · simp only [hlen, decide_true, Bool.and_false, if_true]
            exact set_range8 I.L hB I.O x y xs a cap w hxs hl hv ht hlen' hr
          · simp only [hlen, decide_true, Bool.and_self, if_true]
            exact set_ok8 I.L hB I.O x y xs a cap w hxs hl hv ht hlen' hr
        · cases hr : rngB I.L xs
          · simp only [hlen, decide_true, Bool.and_false, if_true]
            exact set_range16 I.L hB I.O x y xs a cap w hxs hl hv ht hlen' hr
          · simp only [hlen, decide_true, Bool.and_self, if_true]
            exact set_ok16 I.L hB I.O x y xs a cap w hxs hl hv ht hlen' hr
      · have hlen' : ((xs.length : Int) != I.L.C) = true := by simp [hlen]
        simp only [hlen, decide_false, Bool.false_and, Bool.and_false, if_true]
        exact set_len I.L I.O x y xs a cap w hl hv ht hlen'

theorem Img_shape (I : Im) (bits : Int) (pl : Bool) (pad : Int) (w : World) :
    Calls Try.prog 25 #[I.v, .int .i64 bits, .bool pl, .int .i64 pad] w (ImPost (shpR I bits pl pad) w) := by
  unfold shpR
  cases h : I.vB
  · exact shape_bad I.L I.O bits pl pad w (vB_no h)
  have hv := vB_yes h
  simp only [if_true]
  by_cases hb : bits = I.L.B
  · cases hp : pl == I.L.pl
    · simp only [hb, decide_true, Bool.false_and, Bool.and_false]
      have hbb : (bits == I.L.B) = true := by simp [hb]
      cases hs : shpB I.L.W I.L.H I.L.C bits pad
      · rw [← hb, hs]
        exact shape_arg2 I.L I.O bits pl pad w hv hs hbb hp
      · rw [← hb, hs]
        have e : I.lay bits pl pad = ⟨I.L.lay bits pl pad, octS (I.L.lay bits pl pad).len.toNat ((I.L.lay bits pl pad).octF fun a b c => chg1 (I.L.fn I.O a b c))⟩ := by
          unfold Im.lay chgT chg1
          subst hb
          simp
        rw [e]
        exact shape_ok1a I.L I.O bits pl pad w hv ((shpB_iff _ _ _ _ _).1 hs) hbb (by omega) (by omega) hp
    · by_cases hq : pad = I.L.P
      · subst hb
        rw [eq_of_beq hp, hq]
        simp only [decide_true, Bool.and_self, if_true, beq_self_eq_true]
        exact shape_same I.L I.O w hv
      · simp only [hb, hq, decide_true, decide_false, Bool.and_false]
        have hbb : (bits == I.L.B) = true := by simp [hb]
        have hqq : (pad == I.L.P) = false := by simp [hq]
        cases hs : shpB I.L.W I.L.H I.L.C bits pad
        · rw [← hb, hs]
          exact shape_arg3 I.L I.O bits pl pad w hv hs hbb hp hqq
        · rw [← hb, hs]
          have e : I.lay bits pl pad = ⟨I.L.lay bits pl pad, octS (I.L.lay bits pl pad).len.toNat ((I.L.lay bits pl pad).octF fun a b c => chg1 (I.L.fn I.O a b c))⟩ := by
            unfold Im.lay chgT chg1
            subst hb
            simp
          rw [e]
          exact shape_ok1b I.L I.O bits pl pad w hv ((shpB_iff _ _ _ _ _).1 hs) hbb (by omega) (by omega) hp hqq
  · have hbb : (bits == I.L.B) = false := by simp [hb]
    simp only [hb, decide_false, Bool.false_and]
    cases hs : shpB I.L.W I.L.H I.L.C bits pad
    · exact shape_arg1 I.L I.O bits pl pad w hv hs hbb
    · by_cases h4 : I.L.B < bits
      · have e : I.lay bits pl pad = ⟨I.L.lay bits pl pad, octS (I.L.lay bits pl pad).len.toNat ((I.L.lay bits pl pad).octF fun a b c => chg2 (I.L.fn I.O a b c))⟩ := by
          unfold Im.lay chgT chg2
          simp only [h4, if_true]
        rw [e]
        exact shape_ok2 I.L I.O bits pl pad w hv ((shpB_iff _ _ _ _ _).1 hs) hbb h4
      · have h5 : bits < I.L.B := by omega
        have e : I.lay bits pl pad = ⟨I.L.lay bits pl pad, octS (I.L.lay bits pl pad).len.toNat ((I.L.lay bits pl pad).octF fun a b c => chg3 (I.L.fn I.O a b c))⟩ := by
          unfold Im.lay chgT chg3
          simp only [h4, if_false, h5, if_true]
        rw [e]
        exact shape_ok3 I.L I.O bits pl pad w hv ((shpB_iff _ _ _ _ _).1 hs) hbb h4 h5

theorem Img_cut (I : Im) (x y wide high : Int) (w : World) :
    Calls Try.prog 28 #[I.v, .int .i64 x, .int .i64 y, .int .i64 wide, .int .i64 high] w (ImPost (cutR I x y wide high) w) := by
  unfold cutR
  cases h : I.vB
  · exact cut_bad I.L I.O x y wide high w (vB_no h)
  have hv := vB_yes h
  cases h1 : inB wide 1 I.L.W
  · exact cut_arg1 I.L I.O x y wide high w hv h1
  cases h2 : inB high 1 I.L.H
  · exact cut_arg2 I.L I.O x y wide high w hv h1 h2
  cases h3 : insB I.L x y wide high
  · exact cut_arg3 I.L I.O x y wide high w hv h1 h2 h3
  · exact cut_ok I.L I.O x y wide high w hv h1 h2 h3

theorem Img_paste (I J : Im) (x y : Int) (w : World) :
    Calls Try.prog 31 #[I.v, J.v, .int .i64 x, .int .i64 y] w (ImPost (pasR I J x y) w) := by
  unfold pasR
  cases h : I.vB
  · exact paste_bad1 I.L J.L I.O J.O x y w (vB_no h)
  have hv := vB_yes h
  cases h' : J.vB
  · exact paste_bad2 I.L J.L I.O J.O x y w hv (vB_no h')
  have hv' := vB_yes h'
  by_cases h1 : I.L.C = J.L.C
  · have h1' : (I.L.C != J.L.C) = false := by simp [h1]
    by_cases h2 : I.L.B = J.L.B
    · have h2' : (I.L.B != J.L.B) = false := by simp [h2]
      cases h3 : insB I.L x y J.L.W J.L.H
      · simp only [Bool.and_false, Bool.and_self, if_true]
        exact paste_arg3 I.L J.L I.O J.O x y w hv hv' h1' h2' h3
      · simp only [h1, h2, decide_true, Bool.and_self, if_true]
        exact paste_ok I.L J.L I.O J.O x y w hv hv' h1' h2' h3
    · have h2' : (I.L.B != J.L.B) = true := by simp [h2]
      simp only [h2, decide_false, Bool.false_and, Bool.and_false, Bool.and_self, if_true]
      exact paste_arg2 I.L J.L I.O J.O x y w hv hv' h1' h2'
  · have h1' : (I.L.C != J.L.C) = true := by simp [h1]
    simp only [h1, decide_false, Bool.false_and, Bool.and_self, if_true]
    exact paste_arg1 I.L J.L I.O J.O x y w hv hv' h1'

end Go.Proofs.Ytphfbjeaklpddaa

/- Layer 42, the reference: zeros, there, sample. -/
namespace Go.Proofs.Ytphfbjeaklpddaa
open Go.RowKit

attribute [local go_sem] Oper.semAt_some

set_option maxHeartbeats 1000000 in
theorem zeros_any (n : Nat) (hn : n ≤ 200000) (w : World) :
    Calls Try.prog 44 #[.int .i64 n] w fun e w' => e = .returned (.string (octS n fun _ => 0)) ∧ Below w.heap.size w w' := by
  have hmk := run_make_row' (P := Try.prog) 70 5 (.int .u8 0) 1 Try.underlying70 info_u8 rfl .i64 .i64 n (by omega) (by omega)
  have hcv := run_convert_bytes_arg (P := Try.prog) (w.alloc (.cells (madeCells #[.int .u8 0] n) 5)) 70 5 Try.underlying70 Try.underlying5 w.heap.size 0 n n ((List.range n).map fun _ => (0 : Int)) (by simp) (fun i hi => by
    have hi' : i < n := by simpa using hi
    rw [Nat.zero_add, World.cell?_alloc_new]
    simp [madeCells, hi', Nat.mod_one]) 9 Try.underlying9
  go_enter Try.func44, Try.ntmps44
  go_wp2
  go_ret
  exact ⟨rfl, (Below.refl _ _).alloc (Nat.le_refl _) _⟩

set_option maxHeartbeats 1000000 in
theorem there_any (I : Im) (x y : Int) (w : World) (hok : I.L.ok) :
    Calls Try.prog 48 #[I.v, .int .i64 x, .int .i64 y] w fun e w' => e = .returned (.bool (thereB I.L x y)) ∧ Below w.heap.size w w' := by
  have q1 := hok.w1
  have q2 := hok.w2
  have q3 := hok.h1
  have q4 := hok.h2
  unfold Im.v Lay.img
  cases h1 : inB x 0 (I.L.W - 1)
  · have hr : thereB I.L x y = false := by unfold thereB; rw [h1]; rfl
    have HR := Lib.hid hr
    clear hr
    go_enter Try.func48, Try.ntmps48
    go_wp2_with fail
    (with_reducible refine (within_any _ _ _ _).mono ?_)
    rintro e w1 ⟨rfl, rfl⟩
    go_wp2_with fail
    go_ret
    exact ⟨by rw [HR.out]; rfl, (Below.refl _ _).alloc (Nat.le_refl _) _⟩
  · have hr : thereB I.L x y = inB y 0 (I.L.H - 1) := by unfold thereB; rw [h1]; rfl
    have HR := Lib.hid hr
    clear hr
    go_enter Try.func48, Try.ntmps48
    go_wp2_with fail
    (with_reducible refine (within_any _ _ _ _).mono ?_)
    rintro e w1 ⟨rfl, rfl⟩
    go_wp2_with fail
    (with_reducible refine (within_any _ _ _ _).mono ?_)
    rintro e w1 ⟨rfl, rfl⟩
    go_wp2_with fail
    go_ret
    exact ⟨by rw [HR.out]; rfl, (Below.refl _ _).alloc (Nat.le_refl _) _⟩

end Go.Proofs.Ytphfbjeaklpddaa

/- slices.Equal of two slices of ints. -/
namespace Go.Proofs.Ytphfbjeaklpddaa
open Go.RowKit

theorem take_eq_succ {xs ys : List Int} {k : Nat} {x y : Int} (hx : xs[k]? = some x) (hy : ys[k]? = some y) (h : xs.take k = ys.take k) (e : x = y) : xs.take (k + 1) = ys.take (k + 1) := by
  rw [List.take_add_one, List.take_add_one, hx, hy, h, e]

set_option maxHeartbeats 1000000 in
theorem equal_any (xs ys : List Int) (a b : Option Addr) (ca cb : Nat) (w : World) (hx : Ints w a xs) (hy : Ints w b ys) (hl : xs.length ≤ maxLen) (hm : ys.length ≤ maxLen) :
    Calls Try.prog 21 #[.slice a xs.length ca, .slice b ys.length cb] w fun e w' => e = .returned (.bool (decide (xs = ys))) ∧ Below w.heap.size w w' := by
  unfold maxLen at hl hm
  by_cases hlen : xs.length = ys.length
  · have HLEN := Lib.hid hlen
    have HX := Lib.hid hx
    have HY := Lib.hid hy
    clear hlen hx hy
    have hne : ((xs.length : Int) != (ys.length : Int)) = false := by have := HLEN.out; simp [this]
    go_enter Try.func21, Try.ntmps21
    go_wp2
    go_loopw [5, 13] (fun _ i wr => ∃ k : Nat, k ≤ xs.length ∧ i = .int .i64 k ∧ xs.take k = ys.take k ∧ Below w.heap.size w wr) (fun _ i _ => xs.length - (intOf i).toNat)
    case atStart => exact ⟨0, Nat.zero_le _, rfl, rfl, Below.refl _ _⟩
    case round =>
      obtain ⟨k, hk, rfl, ht, hB⟩ := hrel
      have HT := Lib.hid ht
      have HB := Lib.hid hB
      clear ht hB
      by_cases hlt : k < xs.length
      · obtain ⟨b1, o1, x, rfl, hc1, HX1⟩ := (HX.out.below HB.out).at hlt
        obtain ⟨b2, o2, y, rfl, hc2, HY1⟩ := (HY.out.below HB.out).at (k := k) (by rw [← HLEN.out]; exact hlt)
        have hlt2 : k < ys.length := by rw [← HLEN.out]; exact hlt
        by_cases hxy : x = y
        · subst hxy
          have HS := Lib.hid (take_eq_succ HX1.out HY1.out HT.out rfl)
          go_wp2
          go_region
          go_wp2
          go_roundw
          case rel => exact ⟨k + 1, by omega, by go_num, HS.out, HB.out.drew⟩
          case measure => simp [intOf]; omega
        · have hd : decide (xs = ys) = false := by
            rw [decide_eq_false_iff_not]
            rintro e
            have h1 := HX1.out
            have h2 := HY1.out
            rw [e, h2] at h1
            exact hxy (Option.some.inj h1).symm
          have HD := Lib.hid hd
          clear hd
          have hxy' : (x != y) = true := by simp [hxy]
          go_wp2
          go_region
          go_wp2
          go_ret
          exact ⟨by rw [HD.out]; rfl, HB.out.drew⟩
      · have hd : decide (xs = ys) = true := by
          have h := HT.out
          rw [List.take_of_length_le (by omega), List.take_of_length_le (by rw [← HLEN.out]; omega)] at h
          simp [h]
        have HD := Lib.hid hd
        clear hd
        go_wp2
        go_ret
        exact ⟨by rw [HD.out]; rfl, HB.out⟩
  · have hd : decide (xs = ys) = false := by
      rw [decide_eq_false_iff_not]
      rintro rfl
      exact hlen rfl
    have HD := Lib.hid hd
    have hne : ((xs.length : Int) != (ys.length : Int)) = true := by simp; omega
    clear hd
    go_enter Try.func21, Try.ntmps21
    go_wp2
    go_ret
    exact ⟨by rw [HD.out]; rfl, Below.refl _ _⟩

end Go.Proofs.Ytphfbjeaklpddaa

/- Layer 42, for the statements: an image in a variable; six. -/
namespace Go.Proofs.Ytphfbjeaklpddaa
open Go.RowKit

/-- the variable b holds the image I -/
structure HasIm (W : World) (b : Nat) (I : Im) : Prop where
  lt : b < W.heap.size
  c0 : W.cell? ⟨b, 0, none⟩ = some (.int .i64 I.L.W)
  c1 : W.cell? ⟨b, 1, none⟩ = some (.int .i64 I.L.H)
  c2 : W.cell? ⟨b, 2, none⟩ = some (.int .i64 I.L.C)
  c3 : W.cell? ⟨b, 3, none⟩ = some (.int .i64 I.L.B)
  c4 : W.cell? ⟨b, 4, none⟩ = some (.bool I.L.pl)
  c5 : W.cell? ⟨b, 5, none⟩ = some (.int .i64 I.L.P)
  c6 : W.cell? ⟨b, 6, none⟩ = some (.string I.O)
  fz : ∀ o, W.frozen? ⟨b, o, none⟩ = false

theorem HasIm.below {W W' : World} {b : Nat} {I : Im} (h : HasIm W b I) (hb : Below W.heap.size W W') : HasIm W' b I :=
  ⟨Nat.lt_of_lt_of_le h.lt hb.size, (hb.cell (p := ⟨b, 0, none⟩) h.lt).trans h.c0, (hb.cell (p := ⟨b, 1, none⟩) h.lt).trans h.c1, (hb.cell (p := ⟨b, 2, none⟩) h.lt).trans h.c2,
   (hb.cell (p := ⟨b, 3, none⟩) h.lt).trans h.c3, (hb.cell (p := ⟨b, 4, none⟩) h.lt).trans h.c4, (hb.cell (p := ⟨b, 5, none⟩) h.lt).trans h.c5, (hb.cell (p := ⟨b, 6, none⟩) h.lt).trans h.c6, fun o => (hb.frozen (p := ⟨b, o, none⟩) h.lt).trans (h.fz o)⟩

theorem HasIm.set_other {W : World} {b : Nat} {I : Im} (h : HasIm W b I) {p : Addr} (hp : b ≠ p.block) (v : Value) : HasIm (W.setCell p v) b I := by
  have e : ∀ o, (W.setCell p v).cell? ⟨b, o, none⟩ = W.cell? ⟨b, o, none⟩ := fun o => World.cell?_setCell_other W p ⟨b, o, none⟩ v (by rintro rfl; exact hp rfl)
  exact ⟨by rw [World.size_setCell]; exact h.lt, (e 0).trans h.c0, (e 1).trans h.c1, (e 2).trans h.c2, (e 3).trans h.c3, (e 4).trans h.c4, (e 5).trans h.c5, (e 6).trans h.c6, fun o => (World.frozen?_setCell ..).trans (h.fz o)⟩

theorem Ints.set_other {W : World} {a : Option Addr} {xs : List Int} (h : Ints W a xs) {p : Addr} (hp : ∀ c off, a = some ⟨c, off, none⟩ → c ≠ p.block) (v : Value) : Ints (W.setCell p v) a xs := by
  intro hx
  obtain ⟨b, off, e, g⟩ := h hx
  refine ⟨b, off, e, fun i hi => ?_⟩
  rw [World.cell?_setCell_other W p ⟨b, off + i, none⟩ v (by rintro rfl; exact hp _ _ e rfl)]
  exact g i hi

theorem calls_gen {P : Program} {f : FuncId} {args : Array Value} {W : World} {Q : Ending → World → Prop} (h : ∀ V, V = W → Calls P f args V Q) : Calls P f args W Q := h W rfl

theorem wpAnyH_gen {P : Program} {ops : Array Oper} {Q : Exit → Act → World → Prop} {md : Region.Mode} {S : World → Prop} {fuel : Nat} {listed : Array Bool} {a : Act} {w : World} (h : ∀ V, V = w → wpAnyH P md ops Q S fuel listed a V) : wpAnyH P md ops Q S fuel listed a w := h w rfl

theorem wp_gen {P : Program} {c : Code} {Q : Exit → Act → World → Prop} {a : Act} {w : World} (h : ∀ V, V = w → c.wp P Q a V) : c.wp P Q a w := h w rfl

def sixI : Im := ⟨⟨2, 1, 3, 8, false, 4⟩, ⟨#[1, 2, 3, 4, 5, 6, 0, 0]⟩⟩

set_option maxHeartbeats 400000 in
theorem six_any (w : World) : Calls Try.prog 33 #[] w fun e w' => e = .returned (imgV 2 1 3 8 false 4 ⟨#[1, 2, 3, 4, 5, 6, 0, 0]⟩) ∧ Below w.heap.size w w' := by
  go_enter Try.func33, Try.ntmps33
  go_wp2
  refine bodyPost_ret (v := imgV 2 1 3 8 false 4 ⟨#[1, 2, 3, 4, 5, 6, 0, 0]⟩) ?_ rfl ?_
  · simp [results, Try.results33, go_sem]
  refine ⟨rfl, ?_⟩
  ((repeat (first | (with_reducible exact Below.refl _ _) | (with_reducible refine Below.setCell ?_ ?_ _) | (with_reducible refine Below.alloc ?_ ?_ _) | (with_reducible refine Below.drew ?_) | (with_reducible refine Below.trans ?_ (Below.mono (by assumption) ?_)))); all_goals ((try simp only [World.size_alloc, World.size_drew, World.size_setCell]); omega))

theorem six_stride : strR sixI = (8, 0) := by kernel_rfl
theorem six_get : getR sixI 1 0 = ([4, 5, 6], 0) := by kernel_rfl
theorem six_set : setR sixI 0 0 [7, 8, 9] = (⟨sixI.L, ⟨#[7, 8, 9, 4, 5, 6, 0, 0]⟩⟩, 0) := by kernel_rfl
theorem six_shape1 : shpR sixI 8 true 1 = (⟨⟨2, 1, 3, 8, true, 1⟩, ⟨#[1, 4, 2, 5, 3, 6]⟩⟩, 0) := by kernel_rfl
theorem six_shape2 : shpR sixI 16 false 1 = (⟨⟨2, 1, 3, 16, false, 1⟩, ⟨#[1, 1, 2, 2, 3, 3, 4, 4, 5, 5, 6, 6]⟩⟩, 0) := by kernel_rfl
theorem six_cut : cutR sixI 1 0 1 1 = (⟨⟨1, 1, 3, 8, false, 4⟩, ⟨#[4, 5, 6, 0]⟩⟩, 0) := by kernel_rfl
theorem six_get2 : getR sixI 2 0 = ([], 2) := by kernel_rfl
theorem six_make : makR ⟨65, 1, 1, 8, false, 1⟩ = (Im.z, 2) := by kernel_rfl
theorem six_check : chkR ⟨⟨2, 1, 3, 8, false, 4⟩, ⟨#[1, 2, 3, 4, 5, 6, 0, 1]⟩⟩ = 420 := by kernel_rfl

theorem strR_bad {I : Im} (h : I.vB = false) : strR I = (0, 420) := by simp [strR, h]
theorem chkR_bad {I : Im} (h : I.vB = false) : chkR I = 420 := by simp [chkR, h]
theorem getR_bad {I : Im} (h : I.vB = false) (x y : Int) : getR I x y = ([], 420) := by simp [getR, h]
theorem setR_bad {I : Im} (h : I.vB = false) (x y : Int) (xs : List Int) : setR I x y xs = (Im.z, 420) := by simp [setR, h]
theorem shpR_bad {I : Im} (h : I.vB = false) (b : Int) (pl : Bool) (p : Int) : shpR I b pl p = (Im.z, 420) := by simp [shpR, h]
theorem cutR_bad {I : Im} (h : I.vB = false) (x y a b : Int) : cutR I x y a b = (Im.z, 420) := by simp [cutR, h]
theorem pasR_bad {I : Im} (h : I.vB = false) (J : Im) (x y : Int) : pasR I J x y = (Im.z, 420) := by simp [pasR, h]
theorem pasR_bad2 {I : Im} (h : I.vB = false) (J : Im) (x y : Int) : pasR J I x y = (Im.z, 420) := by simp [pasR, h]

end Go.Proofs.Ytphfbjeaklpddaa

/- Layer 42, the reference: Right. -/
namespace Go.Proofs.Ytphfbjeaklpddaa
open Go.RowKit

attribute [local go_sem] Oper.semAt_some

/-- an octet is a sample's, or 0 -/
def padB (L : Lay) (O : ByteArray) (p : Nat) : Bool := decide ((p : Int) % L.str < L.row) || decide (octAt O p = 0)

theorem octAt_get (O : ByteArray) (k : Nat) (h : k < O.size) : octAt O k = (O[k].toNat : Int) := by
  unfold octAt
  have h' : k < O.data.toList.length := by simpa using h
  rw [Int.toNat_natCast, List.getElem?_eq_getElem h', Option.getD_some]
  rfl

theorem vB_false (L : Lay) (O : ByteArray) (p : Nat) (hp : p < O.size) (h : padB L O p = false) : L.vB O = false := by
  cases e : L.vB O
  · rfl
  · unfold Lay.vB at e
    simp only [Bool.and_eq_true, List.all_eq_true, List.mem_range] at e
    have := e.2.2 p hp
    unfold padB at h
    rw [h] at this
    cases this

theorem vB_true (L : Lay) (O : ByteArray) (h1 : shpB L.W L.H L.C L.B L.P = true) (h2 : (O.size : Int) = L.len) (h : ∀ p, p < O.size → padB L O p = true) : L.vB O = true := by
  unfold Lay.vB
  simp only [Bool.and_eq_true, List.all_eq_true, List.mem_range, decide_eq_true_eq]
  exact ⟨h1, h2, h⟩

set_option maxHeartbeats 1000000 in
theorem right_bad1 (I : Im) (w : World) (h : shpB I.L.W I.L.H I.L.C I.L.B I.L.P = false) :
    Calls Try.prog 39 #[I.v] w fun e w' => e = .returned (.bool I.vB) ∧ Below w.heap.size w w' := by
  have hv : I.vB = false := by unfold Im.vB Lay.vB; rw [h]; rfl
  have HV := Lib.hid hv
  clear hv
  unfold Im.v Lay.img
  go_enter Try.func39, Try.ntmps39
  go_wp2
  refine wp_region_grow (by kernel_rfl) (by kernel_rfl) ?_
  repeat (go_big_quiet_step (first
    | (go_at_call 43; exact calls_grow (rshaped_any _ _ _ _ _ _ _ _))))
  refine wpQuiet_nil ?_
  intro _ hw'
  obtain ⟨nq, hw''⟩ := hw'
  subst hw''
  go_wp2
  go_ret
  exact ⟨by rw [HV.out]; rfl, ((Below.refl _ _).alloc (Nat.le_refl _) _).trans ((grow_below _ _).mono (by simp))⟩

set_option maxHeartbeats 1000000 in
theorem right_bad2 (I : Im) (w : World) (hok : I.L.ok) (hne : ((I.O.size : Int) != I.L.len) = true) :
    Calls Try.prog 39 #[I.v] w fun e w' => e = .returned (.bool I.vB) ∧ Below w.heap.size w w' := by
  have h := (shpB_iff _ _ _ _ _).2 hok
  have hv : I.vB = false := by
    unfold Im.vB Lay.vB
    rw [show decide ((I.O.size : Int) = I.L.len) = false by simp at hne; simp; omega]
    simp
  have hr := I.L.rows_bd hok
  have hst := I.L.row_str hok
  have HV := Lib.hid hv
  clear hv
  obtain ⟨⟨W, H, C, B, pl, P⟩, O⟩ := I
  unfold Im.v Lay.img
  unfold Lay.len Lay.rows Lay.str at *
  unfold Lay.row at *
  unfold Lay.ok at *
  dsimp only at h hok hr hst hne ⊢
  obtain ⟨r1, r2⟩ := hr
  obtain ⟨s0, s1, s2⟩ := hst
  obtain ⟨m1, m2⟩ := mul_bd (a := rowsS H C pl) (b := strS W C B pl P) (A := 256) (B := 520) (by omega) r2 (by omega) s2
  go_enter Try.func39, Try.ntmps39
  go_wp2
  refine wp_region_grow (by kernel_rfl) (by kernel_rfl) ?_
  repeat (go_big_quiet_step (first
    | (go_at_call 43; exact calls_grow (rshaped_any _ _ _ _ _ _ _ _))
    | (go_at_call 45; exact calls_grow (rrows_any _ _ _ _ _ _ _ _ hok))
    | (go_at_call 40; exact calls_grow (rstride_any _ _ _ _ _ _ _ _ hok))))
  refine wpQuiet_nil ?_
  intro _ hw'
  obtain ⟨nq, hw''⟩ := hw'
  subst hw''
  go_wp2
  go_ret
  exact ⟨by rw [HV.out]; rfl, ((Below.refl _ _).alloc (Nat.le_refl _) _).trans ((grow_below _ _).mono (by simp))⟩

set_option maxHeartbeats 2000000 in
theorem right_loop (I : Im) (w : World) (hok : I.L.ok) (hs : (I.O.size : Int) = I.L.len) :
    Calls Try.prog 39 #[I.v] w fun e w' => e = .returned (.bool I.vB) ∧ Below w.heap.size w w' := by
  have h := (shpB_iff _ _ _ _ _).2 hok
  have hr := I.L.rows_bd hok
  have hst := I.L.row_str hok
  have HF := Lib.hid (vB_false I.L I.O)
  have HT := Lib.hid (vB_true I.L I.O h hs)
  obtain ⟨⟨W, H, C, B, pl, P⟩, O⟩ := I
  unfold Im.v Im.vB Lay.img
  unfold padB at *
  unfold Lay.len Lay.rows Lay.str at *
  unfold Lay.row at *
  unfold Lay.ok at *
  dsimp only at h hok hr hst hs HF HT ⊢
  have hne : ((O.size : Int) != rowsS H C pl * strS W C B pl P) = false := by rw [hs]; simp
  obtain ⟨r1, r2⟩ := hr
  obtain ⟨s0, s1, s2⟩ := hst
  obtain ⟨m1, m2⟩ := mul_bd (a := rowsS H C pl) (b := strS W C B pl P) (A := 256) (B := 520) (by omega) r2 (by omega) s2
  have hsz : (O.size : Int) ≤ 133120 := by omega
  have HS := Lib.hid hs
  clear hs
  go_enter Try.func39, Try.ntmps39
  go_wp2
  refine wp_region_grow (by kernel_rfl) (by kernel_rfl) ?_
  repeat (go_big_quiet_step (first
    | (go_at_call 43; exact calls_grow (rshaped_any _ _ _ _ _ _ _ _))
    | (go_at_call 45; exact calls_grow (rrows_any _ _ _ _ _ _ _ _ hok))
    | (go_at_call 40; exact calls_grow (rstride_any _ _ _ _ _ _ _ _ hok))))
  refine wpQuiet_nil ?_
  intro _ hw'
  obtain ⟨nq, hw''⟩ := hw'
  subst hw''
  have hb1 := grow_below (w.alloc (.cells #[.int .i64 W, .int .i64 H, .int .i64 C, .int .i64 B, .bool pl, .int .i64 P, .string O] 31)) nq
  generalize grow _ nq = w1 at hb1 ⊢
  have hB1 : Below w.heap.size w w1 := ((Below.refl _ _).alloc (Nat.le_refl _) _).trans (hb1.mono (by simp))
  have hM : HasIm w1 w.heap.size ⟨⟨W, H, C, B, pl, P⟩, O⟩ := HasIm.below ⟨by go_simp, by go_simp, by go_simp, by go_simp, by go_simp, by go_simp, by go_simp, by go_simp, fun o => by go_simp⟩ hb1
  have HM := Lib.hid hM
  have HB1 := Lib.hid hB1
  clear hb1 hM hB1 hne
  go_wp2
  clear h
  go_loopw [3] (fun i wr => ∃ k : Nat, k ≤ O.size ∧ i = .int .i64 k ∧ (∀ p, p < k → (decide ((p : Int) % strS W C B pl P < rowS W C B pl) || decide (octAt O p = 0)) = true) ∧ HasIm wr w.heap.size ⟨⟨W, H, C, B, pl, P⟩, O⟩ ∧ Below w.heap.size w wr) (fun i _ => O.size - (intOf i).toNat)
  case atStart => exact ⟨0, Nat.zero_le _, rfl, fun p hp => absurd hp (Nat.not_lt_zero p), HM.out, HB1.out⟩
  case round =>
    obtain ⟨k, hk, rfl, hpre, hI, hB⟩ := hrel
    obtain ⟨il, i0, i1, i2, i3, i4, i5, i6, iz⟩ := hI
    dsimp only at i0 i1 i2 i3 i4 i5 i6
    have HP := Lib.hid hpre
    have HB := Lib.hid hB
    clear hpre hB
    by_cases hlt : k < O.size
    · have hrange := octAt_range O k
      obtain ⟨g0, g1⟩ := hrange
      by_cases hpad : (k : Int) % strS W C B pl P < rowS W C B pl
      · have hdec : decide (rowS W C B pl ≤ (k : Int) % strS W C B pl P) = false := decide_eq_false (by omega)
        go_wp2
        refine wp_region_grow (by kernel_rfl) (by kernel_rfl) ?_
        repeat (go_big_quiet_step (first
          | (go_at_call 40; exact calls_grow (rstride_any _ _ _ _ _ _ _ _ hok))
          | (go_at_call 66; exact calls_grow (rrow_any _ _ _ _ _ _ _ _ hok))))
        refine wpQuiet_nil ?_
        intro _ hw'
        obtain ⟨nq, hw''⟩ := hw'
        subst hw''
        have hb2 := grow_below wr nq
        generalize grow _ nq = w2 at hb2 ⊢
        have HB2 := Lib.hid hb2
        have HI2 := Lib.hid (HasIm.below ⟨il, i0, i1, i2, i3, i4, i5, i6, iz⟩ hb2 : HasIm w2 w.heap.size ⟨⟨W, H, C, B, pl, P⟩, O⟩)
        clear hb2
        go_wp2
        go_roundw
        case rel =>
          refine ⟨k + 1, by omega, by go_num, fun p hp => ?_, HI2.out, HB.out.trans (HB2.out.mono HB.out.size)⟩
          by_cases e : p = k
          · subst e; simp [hpad]
          · exact HP.out p (by omega)
        case measure => simp [intOf]; omega
      · have hpad' : rowS W C B pl ≤ (k : Int) % strS W C B pl P := by omega
        cases h0 : ((O[k].toNat : Int) != 0)
        · go_wp2
          refine wp_region_grow (by kernel_rfl) (by kernel_rfl) ?_
          repeat (go_big_quiet_step (first
            | (go_at_call 40; exact calls_grow (rstride_any _ _ _ _ _ _ _ _ hok))
            | (go_at_call 66; exact calls_grow (rrow_any _ _ _ _ _ _ _ _ hok))))
          refine wpQuiet_nil ?_
          intro _ hw'
          obtain ⟨nq, hw''⟩ := hw'
          subst hw''
          have hb2 := grow_below wr nq
          generalize grow _ nq = w2 at hb2 ⊢
          have HB2 := Lib.hid hb2
          have HI2 := Lib.hid (HasIm.below ⟨il, i0, i1, i2, i3, i4, i5, i6, iz⟩ hb2 : HasIm w2 w.heap.size ⟨⟨W, H, C, B, pl, P⟩, O⟩)
          have H0 := Lib.hid h0
          clear hb2
          go_wp2
          go_roundw
          case rel =>
            refine ⟨k + 1, by omega, by go_num, fun p hp => ?_, HI2.out, HB.out.trans (HB2.out.mono HB.out.size)⟩
            by_cases e : p = k
            · subst e
              have h0 := H0.out
              rw [bne_eq_false_iff_eq] at h0
              rw [octAt_get O p hlt, h0]
              simp
            · exact HP.out p (by omega)
          case measure => simp [intOf]; omega
        · have hno : Lay.vB ⟨W, H, C, B, pl, P⟩ O = false := HF.out k hlt (by
            rw [octAt_get O k hlt]
            simp only [bne_iff_ne, ne_eq] at h0
            simp [hpad]
            omega)
          have HN := Lib.hid hno
          clear hno
          go_wp2
          refine wp_region_grow (by kernel_rfl) (by kernel_rfl) ?_
          repeat (go_big_quiet_step (first
            | (go_at_call 40; exact calls_grow (rstride_any _ _ _ _ _ _ _ _ hok))
            | (go_at_call 66; exact calls_grow (rrow_any _ _ _ _ _ _ _ _ hok))))
          refine wpQuiet_nil ?_
          intro _ hw'
          obtain ⟨nq, hw''⟩ := hw'
          subst hw''
          have hb2 := grow_below wr nq
          generalize grow _ nq = w2 at hb2 ⊢
          have HB2 := Lib.hid hb2
          clear hb2
          go_wp2
          try rw [Exit.noGoto_ret]
          go_ret
          exact ⟨by rw [HN.out]; rfl, HB.out.trans (HB2.out.mono HB.out.size)⟩
    · have hall : Lay.vB ⟨W, H, C, B, pl, P⟩ O = true := HT.out fun p hp => HP.out p (by omega)
      have HA := Lib.hid hall
      clear hall
      go_wp2
      go_ret
      exact ⟨by rw [HA.out]; rfl, HB.out⟩

theorem right_any (I : Im) (w : World) :
    Calls Try.prog 39 #[I.v] w fun e w' => e = .returned (.bool I.vB) ∧ Below w.heap.size w w' := by
  cases h : shpB I.L.W I.L.H I.L.C I.L.B I.L.P
  · exact right_bad1 I w h
  · have hok := (shpB_iff _ _ _ _ _).1 h
    by_cases hs : (I.O.size : Int) = I.L.len
    · exact right_loop I w hok hs
    · exact right_bad2 I w hok (by simpa using hs)

end Go.Proofs.Ytphfbjeaklpddaa

/- A region that draws its order: its first n operations are quiet in a class of worlds (calls that only make new memory, loads of what was there), and those behind them come up one after the other when all of the first have come. One walk of the text's order serves every order. -/
namespace Go.Proofs.Ytphfbjeaklpddaa
open Go.RowKit

section
variable {P : Program} {ops : Array Oper} {md : Region.Mode} {C : World → Prop}

/-- f operations of the head are still to come, in whatever order; then L -/
def headQ (P : Program) (md : Region.Mode) (ops : Array Oper) (C : World → Prop) (n : Nat) (L : Array Bool → Act → Prop) : Nat → Array Bool → Act → Prop
  | 0 => L
  | f + 1 => fun done a => Region.ready md ops done ≠ [] ∧ ∀ i, i ∈ Region.ready md ops done → i < n ∧ qOp P ops C i (headQ P md ops C n L f (done.setIfInBounds i true)) a

theorem headQ_any {n g : Nat} {L : Array Bool → Act → Prop} {Q : Exit → Act → World → Prop} (hL : ∀ done a w, C w → L done a → wpAny P md ops Q g done a w) (f : Nat) :
    ∀ (done : Array Bool) (a : Act) (w : World), C w → headQ P md ops C n L f done a → wpAny P md ops Q (f + g) done a w := by
  induction f with
  | zero => intro done a w hw h; rw [Nat.zero_add]; exact hL _ _ _ hw h
  | succ f ih =>
    intro done a w hw h
    rw [Nat.succ_add]
    refine ⟨fun e => absurd e h.1, fun i hi => ?_⟩
    exact wpOp_of_qOp hw (fun a' w' hw' h' => ih _ a' w' hw' h') (h.2 i hi).2

/-- what stands in the way of taking operation i first: nothing -/
def clear (md : Region.Mode) (ops : Array Oper) (i : Nat) (oi : Oper) (done : Array Bool) : Prop :=
  ∀ j oj, ops[j]? = some oj → j ≠ i → done.getD j true = false → (∀ e ∈ oj.after, Region.binds md e = true → e.on ≠ i) → oi.apart ops oj = true

theorem clear.set {i : Nat} {oi : Oper} {done : Array Bool} (h : clear md ops i oi done) (j : Nat) : clear md ops i oi (done.setIfInBounds j true) := by
  intro k ok hk hki hun hno
  refine h k ok hk hki ?_ hno
  rcases Decidable.em (j = k) with rfl | hjk
  · rcases Nat.lt_or_ge j done.size with hl | hl
    · rw [Array.getD_eq_getD_getElem?, Array.getElem?_setIfInBounds_self_of_lt hl] at hun; cases hun
    · rw [Array.setIfInBounds_eq_of_size_le hl] at hun; exact hun
  · rwa [getD_set_ne true hjk] at hun

theorem headQ_take {n i : Nat} {oi : Oper} {v : Value} {L : Array Bool → Act → Prop} (hi : ops[i]? = some oi) (hsel : Region.noSelect ops = true) (hs : Region.sinkB md ops n = true) (hc : Region.chainB md ops n = true)
    (hn : n < ops.size) (hin : i < n) (hend : ∀ done a, L done a → ∀ j, j ∈ Region.ready md ops done → n ≤ j) (f : Nat) :
    ∀ (done : Array Bool) (a : Act), HeadInv md ops n done → clear md ops i oi done → i ∈ Region.ready md ops done → YieldsIn P ops C oi v a →
      headQ P md ops C n L f (done.setIfInBounds i true) (a.put oi.dst v) → headQ P md ops C n L (f + 1) done a := by
  have ns := Region.noSelect_spec hsel
  induction f with
  | zero =>
    intro done a inv hcl hr hy h
    have hun := (mem_ready.1 hr).1
    refine ⟨fun e => (by rw [e] at hr; cases hr), fun j hj => ?_⟩
    have hjn : j < n := Nat.lt_of_not_le fun hle => tail_waits hs hc hn inv _ i rfl hin hun j hle hj
    rcases Decidable.em (j = i) with rfl | hji
    · exact ⟨hjn, hy.qOp hi h⟩
    · have := hend _ _ h j (ready_mono hj hji); omega
  | succ f ih =>
    intro done a inv hcl hr hy h
    have hun := (mem_ready.1 hr).1
    refine ⟨fun e => (by rw [e] at hr; cases hr), fun j hj => ?_⟩
    have hjn : j < n := Nat.lt_of_not_le fun hle => tail_waits hs hc hn inv _ i rfl hin hun j hle hj
    rcases Decidable.em (j = i) with rfl | hji
    · exact ⟨hjn, hy.qOp hi h⟩
    · obtain ⟨hjun, oj, hoj, hall⟩ := mem_ready.1 hj
      have hfar : ∀ e ∈ oj.after, Region.binds md e = true → e.on ≠ i := by
        intro e he hb heq
        have h1 := hall e he hb
        rw [heq, getD_both hun] at h1
        cases h1
      have h2 := qOp_put hoj (hcl j oj hoj hji hjun hfar) (fun cs b => ns i oi cs b hi) (fun cs b => ns j oj cs b hoj) hy (h.2 j (ready_mono hj hji)).2
      refine ⟨hjn, qOp_mono (fun a' h3 => ?_) h2⟩
      refine ih _ a' (inv.set hj hjn) (hcl.set j) (ready_mono hr fun e => hji e.symm) h3.1 ?_
      rw [Array.setIfInBounds_comm _ _ hji]
      exact h3.2

theorem headQ_text {n g : Nat} {K : Act → Prop} (hsel : Region.noSelect ops = true) (hs : Region.sinkB md ops n = true) (hc : Region.chainB md ops n = true) (hn : n < ops.size) (l : List Oper) :
    ∀ (k : Nat) (done : Array Bool) (a : Act), (∀ j, j < l.length → l[j]? = ops[k + j]?) → k + l.length = n → HeadInv md ops n done →
      Region.lexHead md ops g l.length k done = true → wpQuiet P ops C K l a →
      headQ P md ops C n (fun done' a' => Region.seqB md ops g n done' = true ∧ K a') l.length done a := by
  induction l with
  | nil =>
    intro k done a _ hk _ hB h
    obtain rfl : k = n := by simpa using hk
    exact ⟨by simpa [Region.lexHead] using hB, h⟩
  | cons o l ih =>
    intro k done a hl hk inv hB h
    have h0 : ops[k]? = some o := by simpa using (hl 0 (by simp)).symm
    simp only [List.length_cons, Region.lexHead, Bool.and_eq_true] at hB
    obtain ⟨⟨hr, hf⟩, hB'⟩ := hB
    simp only [List.length_cons] at hk
    have hr' : k ∈ Region.ready md ops done := by simpa using hr
    have hq : qOp P ops C k (wpQuiet P ops C K l) a := by unfold qOp; simp only [h0]; exact h
    obtain ⟨v, hy, hK⟩ := yieldsIn_of_qOp h0 hq
    refine headQ_take h0 hsel hs hc hn (by omega) (fun done' a' hL => seqB_ready hL.1) l.length done a inv (Region.free_spec h0 hf) hr' hy ?_
    refine ih (k + 1) _ _ (fun j hj => ?_) (by omega) (inv.set hr' (by omega)) hB' hK
    have := hl (j + 1) (by simp only [List.length_cons]; omega)
    rw [show k + 1 + j = k + (j + 1) by omega]
    simpa using this

theorem wpQuiet_weaken {K K' : Act → Prop} (hK : ∀ a, K a → K' a) : ∀ (l : List Oper) (a : Act), wpQuiet P ops C K l a → wpQuiet P ops C K' l a
  | [], a, h => hK a h
  | o :: l, a, h => by
    unfold wpQuiet at *
    split
    · rename_i hw
      simp only [hw, if_true] at h
      exact Oper.quiet_mono (fun a' h' => wpQuiet_weaken hK l a' h') h
    · rename_i hw
      simp only [hw] at h
      exact wpQuiet_weaken hK l _ h

theorem wp_region_quiet_tail {id : Nat} {Q : Exit → Act → World → Prop} {a : Act} {w : World} {l : List Oper} (n : Nat) (hm : P.follows .mixedOrders = true) (hB : Region.lexTailB .any l.toArray n = true) (hC : C w.drew)
    (h : wpQuiet P l.toArray C (fun a' => ∀ w', C w' → wpList P l.toArray Q (l.drop n) a' w') (l.take n) a) : (Code.region id l.toArray true).wp P Q a w := by
  simp only [Region.lexTailB, Bool.and_eq_true, decide_eq_true_eq] at hB
  obtain ⟨⟨⟨⟨hsel, hn⟩, hs⟩, hc⟩, hlex⟩ := hB
  have hn' : n < l.length := by simpa using hn
  have htl : (l.take n).length = n := by simp; omega
  have hdl : (l.drop n).length = l.toArray.size - n := by simp
  have inv : HeadInv .any l.toArray n (Array.replicate l.toArray.size false) :=
    ⟨by simp, fun j oj _ hl => (by rw [getD_replicate_false] at hl; cases hl), fun t _ ht => getD_in (by simpa using ht) (getD_replicate_false _ _)⟩
  have H := headQ_text (md := .any) (g := l.toArray.size - n) hsel hs hc hn (l.take n) 0 _ a (fun j hj => by rw [htl] at hj; simp [hj]) (by simpa using htl) inv (by rw [htl]; exact hlex) h
  have H2 := headQ_any (Q := Q) (g := l.toArray.size - n) (fun done a' w' hw' hL => by
    have := wpAny_of_seq (md := .any) (Q' := Q) (l.drop n) n done a' w' (fun j => by simp [List.getElem?_drop]) (by rw [hdl]; exact hL.1) (hL.2 w' hw')
    rwa [hdl] at this) _ _ _ _ hC H
  rw [htl, show n + (l.toArray.size - n) = l.toArray.size by omega] at H2
  exact wp_region_any hm H2

theorem wp_region_grow_tail {id : Nat} {Q : Exit → Act → World → Prop} {a : Act} {w : World} {l : List Oper} (n : Nat) (hm : P.follows .mixedOrders = true) (hB : Region.lexTailB .any l.toArray n = true)
    (h : wpQuiet P l.toArray (fun w' => ∃ x, w' = grow w x) (fun a' => ∀ w', Below w.heap.size w w' → wpList P l.toArray Q (l.drop n) a' w') (l.take n) a) : (Code.region id l.toArray true).wp P Q a w := by
  refine wp_region_quiet_tail (C := fun w' => ∃ x, w' = grow w x) n hm hB (below_grow (Below.refl _ w).drew) ?_
  refine wpQuiet_weaken (fun a' h' w' => ?_) _ _ h
  rintro ⟨x, rfl⟩
  exact h' _ (grow_below w x)

end
end Go.Proofs.Ytphfbjeaklpddaa

/- Layer 42, the reference: Check, Stride, Make. -/
namespace Go.Proofs.Ytphfbjeaklpddaa
open Go.RowKit

attribute [local go_sem] Oper.semAt_some

set_option maxHeartbeats 1000000 in
theorem rcheck_any (I : Im) (w : World) : Calls Try.prog 16 #[I.v] w fun e w' => e = .returned (.int .i64 (chkR I)) ∧ Below w.heap.size w w' := by
  have HR := right_any I
  unfold Im.v Lay.img at *
  have HO := Lib.hid HR
  clear HR
  unfold chkR
  cases h : I.vB
  all_goals
    rw [h] at HO
    go_enter Try.func16, Try.ntmps16
    go_wp2_with fail
    (with_reducible refine (HO.out _).mono ?_)
    rintro e w1 ⟨rfl, hb⟩
    go_wp2_with fail
    go_ret
    exact ⟨rfl, ((Below.refl _ _).alloc (Nat.le_refl _) _).trans (hb.mono (by simp))⟩

set_option maxHeartbeats 1000000 in
theorem rstride2_any (I : Im) (w : World) : Calls Try.prog 14 #[I.v] w fun e w' => e = .returned (.tuple #[.int .i64 (strR I).1, .int .i64 (strR I).2]) ∧ Below w.heap.size w w' := by
  have HR := right_any I
  unfold Im.v Lay.img at *
  have HO := Lib.hid HR
  clear HR
  unfold strR
  cases h : I.vB
  · rw [h] at HO
    go_enter Try.func14, Try.ntmps14
    go_wp2_with fail
    (with_reducible refine (HO.out _).mono ?_)
    rintro e w1 ⟨rfl, hb⟩
    go_wp2_with fail
    go_ret2
    exact ⟨rfl, ((Below.refl _ _).alloc (Nat.le_refl _) _).trans (hb.mono (by simp))⟩
  · rw [h] at HO
    have hok := (vB_yes h).1
    have hst : ∀ w, Calls Try.prog 40 #[imgV I.L.W I.L.H I.L.C I.L.B I.L.pl I.L.P I.O] w fun e w' => e = .returned (.int .i64 I.L.str) ∧ Below w.heap.size w w' := fun w => rstride_any _ _ _ _ _ _ _ w hok
    have HST := Lib.hid hst
    clear hst
    go_enter Try.func14, Try.ntmps14
    go_wp2_with fail
    (with_reducible refine (HO.out _).mono ?_)
    rintro e w1 ⟨rfl, hb⟩
    obtain ⟨hc, hf, hz⟩ := after hb
    simp only [World.size_alloc] at hz
    have hx : w.heap.size < w1.heap.size := by omega
    go_wp2_with fail
    (with_reducible refine (HST.out _).mono ?_)
    rintro e w2 ⟨rfl, hb2⟩
    go_wp2_with fail
    go_ret2
    exact ⟨rfl, ((Below.refl _ _).alloc (Nat.le_refl _) _).trans ((hb.mono (by simp)).trans (hb2.mono (by omega)))⟩

theorem zeros_int (z : Int) (z0 : 0 ≤ z) (hz : z ≤ 200000) (w : World) :
    Calls Try.prog 44 #[.int .i64 z] w fun e w' => e = .returned (.string (octS z.toNat fun _ => 0)) ∧ Below w.heap.size w w' := by
  obtain ⟨n, rfl⟩ := Int.eq_ofNat_of_zero_le z0
  exact zeros_any n (by omega) w

set_option maxHeartbeats 1000000 in
theorem rmake_bad (L : Lay) (w : World) (h : shpB L.W L.H L.C L.B L.P = false) :
    Calls Try.prog 18 #[.int .i64 L.W, .int .i64 L.H, .int .i64 L.C, .int .i64 L.B, .bool L.pl, .int .i64 L.P] w fun e w' => e = .returned (.tuple #[zimg, .int .i64 2]) ∧ Below w.heap.size w w' := by
  have hs : ∀ w, Calls Try.prog 43 #[imgV L.W L.H L.C L.B L.pl L.P ⟨#[]⟩] w fun e w' => e = .returned (.bool false) ∧ Below w.heap.size w w' := fun w => by
    have := rshaped_any L.W L.H L.C L.B L.pl L.P ⟨#[]⟩ w
    rwa [h] at this
  have HS := Lib.hid hs
  clear hs
  go_enter Try.func18, Try.ntmps18
  go_wp2_with fail
  (with_reducible refine (HS.out _).mono ?_)
  rintro e w1 ⟨rfl, hb⟩
  obtain ⟨hc, hf, hz⟩ := after hb
  simp only [World.size_alloc] at hz
  have hx : w.heap.size < w1.heap.size := by omega
  have hx' : w.heap.size + 1 < w1.heap.size := by omega
  have hq : w.heap.size < w.heap.size + 1 + 1 := by omega
  go_wp2_with fail
  refine bodyPost_ret (v := .tuple #[zimg, .int .i64 2]) ?_ rfl ?_
  · simp [results, Try.results18, go_sem, hc, hx, hx', hq]
  refine ⟨rfl, ?_⟩
  ((repeat (first | (with_reducible exact Below.refl _ _) | (with_reducible refine Below.setCell ?_ ?_ _) | (with_reducible refine Below.alloc ?_ ?_ _) | (with_reducible refine Below.drew ?_) | (with_reducible refine Below.trans ?_ (Below.mono (by assumption) ?_)))); all_goals ((try simp only [World.size_alloc, World.size_drew, World.size_setCell]); omega))

set_option maxRecDepth 100000 in
set_option maxHeartbeats 2000000 in
theorem rmake_ok (L : Lay) (w : World) (hok : L.ok) :
    Calls Try.prog 18 #[.int .i64 L.W, .int .i64 L.H, .int .i64 L.C, .int .i64 L.B, .bool L.pl, .int .i64 L.P] w fun e w' => e = .returned (.tuple #[L.img (octS L.len.toNat (fun _ => 0)), .int .i64 0]) ∧ Below w.heap.size w w' := by
  have h := (shpB_iff _ _ _ _ _).2 hok
  have hr := L.rows_bd hok
  have hst := L.row_str hok
  have hs : ∀ w, Calls Try.prog 43 #[imgV L.W L.H L.C L.B L.pl L.P ⟨#[]⟩] w fun e w' => e = .returned (.bool true) ∧ Below w.heap.size w w' := fun w => by
    have := rshaped_any L.W L.H L.C L.B L.pl L.P ⟨#[]⟩ w
    rwa [h] at this
  have h1 : ∀ w, Calls Try.prog 45 #[imgV L.W L.H L.C L.B L.pl L.P ⟨#[]⟩] w fun e w' => e = .returned (.int .i64 L.rows) ∧ Below w.heap.size w w' := fun w => rrows_any _ _ _ _ _ _ _ w hok
  have h2 : ∀ w, Calls Try.prog 40 #[imgV L.W L.H L.C L.B L.pl L.P ⟨#[]⟩] w fun e w' => e = .returned (.int .i64 L.str) ∧ Below w.heap.size w w' := fun w => rstride_any _ _ _ _ _ _ _ w hok
  obtain ⟨r1, r2⟩ := hr
  obtain ⟨s0, s1, s2⟩ := hst
  obtain ⟨m1, m2⟩ := mul_bd (a := L.rows) (b := L.str) (A := 256) (B := 520) (by omega) r2 (by omega) s2
  have h3 : ∀ w, Calls Try.prog 44 #[.int .i64 (L.rows * L.str)] w fun e w' => e = .returned (.string (octS L.len.toNat fun _ => 0)) ∧ Below w.heap.size w w' := fun w => zeros_int _ m1 (by omega) w
  have HS := Lib.hid hs
  have H1 := Lib.hid h1
  have H2 := Lib.hid h2
  have H3 := Lib.hid h3
  clear hs h1 h2 h3 h
  unfold Lay.img
  go_enter Try.func18, Try.ntmps18
  go_wp2_with fail
  (with_reducible refine (HS.out _).mono ?_)
  rintro e w1 ⟨rfl, hb⟩
  obtain ⟨hc, hf, hz⟩ := after hb
  simp only [World.size_alloc] at hz
  have hx : w.heap.size < w1.heap.size := by omega
  have hx' : w.heap.size + 1 < w1.heap.size := by omega
  go_wp2_with fail
  refine wp_region_grow_tail 7 (by kernel_rfl) (by kernel_rfl) ?_
  simp only [List.take_succ_cons, List.take_zero, List.drop_succ_cons, List.drop_zero]
  repeat (go_big_quiet_step (first
    | (go_at_call 45; exact calls_grow (H1.out _))
    | (go_at_call 40; exact calls_grow (H2.out _))
    | (go_at_call 44; exact calls_grow (H3.out _))))
  refine wpQuiet_nil ?_
  intro w2 hb2
  obtain ⟨hc2, hf2, hz2⟩ := after hb2
  have hx2 : w.heap.size < w2.heap.size := by omega
  have hx2' : w.heap.size + 1 < w2.heap.size := by omega
  go_wp2_with fail
  have hq : w.heap.size < w.heap.size + 1 + 1 := by omega
  refine bodyPost_ret (v := .tuple #[L.img (octS L.len.toNat (fun _ => 0)), .int .i64 0]) ?_ rfl ?_
  · simp [results, Try.results18, go_sem, Lay.img, hc2, hc, hx, hx', hx2, hx2', hq]
  refine ⟨rfl, ?_⟩
  ((repeat (first | (with_reducible exact Below.refl _ _) | (with_reducible refine Below.setCell ?_ ?_ _) | (with_reducible refine Below.alloc ?_ ?_ _) | (with_reducible refine Below.drew ?_) | (with_reducible refine Below.trans ?_ (Below.mono (by assumption) ?_)))); all_goals ((try simp only [World.size_alloc, World.size_drew, World.size_setCell]); omega))

theorem rmake_any (L : Lay) (w : World) : Calls Try.prog 18 #[.int .i64 L.W, .int .i64 L.H, .int .i64 L.C, .int .i64 L.B, .bool L.pl, .int .i64 L.P] w (ImPost (makR L) w) := by
  unfold makR
  cases h : shpB L.W L.H L.C L.B L.P
  · exact rmake_bad L w h
  · exact rmake_ok L w ((shpB_iff _ _ _ _ _).1 h)

end Go.Proofs.Ytphfbjeaklpddaa

/- Layer 42, the plain law: an image as a layout and a function of its samples. -/
namespace Go.Proofs.Ytphfbjeaklpddaa
open Go.RowKit

theorem octS_size (n : Nat) (g : Int → Int) : (octS n g).size = n := by unfold octS; rw [strOfNums_size]; simp

theorem octAt_octS (n : Nat) (g : Int → Int) (p : Int) (p0 : 0 ≤ p) (p1 : p < n) (hg : 0 ≤ g p ∧ g p < 256) : octAt (octS n g) p = g p := by
  obtain ⟨q, rfl⟩ := Int.eq_ofNat_of_zero_le p0
  have hq : q < n := by omega
  unfold octAt octS
  rw [strOfNums_data]
  simp only [Int.toNat_natCast, List.map_map, List.getElem?_map, List.getElem?_range hq, Option.map_some, Function.comp, Option.getD_some]
  have : (UInt8.ofNat (g q).toNat).toNat = (g q).toNat := by
    rw [UInt8.toNat_ofNat']
    exact Nat.mod_eq_of_lt (by omega)
  rw [this]
  omega

theorem octS_congr (n : Nat) (g g' : Int → Int) (h : ∀ p : Int, 0 ≤ p → p < n → g p = g' p) : octS n g = octS n g' := by
  unfold octS
  congr 1
  refine List.map_congr_left fun p hp => ?_
  exact h p (by omega) (by have := List.mem_range.1 hp; omega)

theorem octS_octAt (O : ByteArray) : octS O.size (octAt O) = O := by
  unfold octS strOfNums
  rw [List.map_map]
  have : (List.range O.size).map ((fun n : Int => UInt8.ofNat n.toNat) ∘ fun p : Nat => octAt O p) = O.data.toList := by
    refine List.ext_getElem? fun k => ?_
    rw [List.getElem?_map]
    by_cases hk : k < O.size
    · have hk' : k < O.data.toList.length := by simpa using hk
      rw [List.getElem?_range hk, List.getElem?_eq_getElem hk']
      simp only [Option.map_some, Function.comp, octAt, Int.toNat_natCast, List.getElem?_eq_getElem hk', Option.getD_some]
      simp
    · rw [List.getElem?_eq_none (by rw [List.length_range]; omega), List.getElem?_eq_none (by rw [Array.length_toList]; exact Nat.le_of_not_lt hk)]
      rfl
  rw [this]

/-- the image of a function of samples -/
def imF (L : Lay) (f : Int → Int → Int → Int) : Im := ⟨L, octS L.len.toNat (L.octF f)⟩

/-- the samples are numbers that the image can hold -/
def Fits (L : Lay) (f : Int → Int → Int → Int) : Prop := ∀ x y c, L.dom x y c → 0 ≤ f x y c ∧ f x y c < if L.B = 8 then 256 else 65536

theorem imF_octAt (L : Lay) (hok : L.ok) (f : Int → Int → Int → Int) (p : Int) (p0 : 0 ≤ p) (p1 : p < L.len) : octAt (imF L f).O p = L.octF f p :=
  octAt_octS _ _ p p0 (by omega) (L.octF_range f p)

theorem imF_valid (L : Lay) (hok : L.ok) (f : Int → Int → Int → Int) : (imF L f).vB = true := by
  unfold Im.vB
  rw [Lay.vB_iff]
  refine ⟨hok, ?_, fun p p0 p1 hp => ?_⟩
  · show ((octS L.len.toNat (L.octF f)).size : Int) = L.len
    rw [octS_size]
    have := L.len_bd hok
    omega
  · have h := imF_octAt L hok f p p0 p1
    refine h.trans ?_
    unfold Lay.octF
    exact if_pos hp

theorem imF_fn (L : Lay) (hok : L.ok) (f : Int → Int → Int → Int) (hf : Fits L f) {x y c : Int} (hd : L.dom x y c) : L.fn (imF L f).O x y c = f x y c := by
  rw [← L.smp_octF hok hd f (hf x y c hd).1 (hf x y c hd).2]
  unfold Lay.fn Lay.smp
  obtain ⟨a0, a1, _⟩ := L.coords hok hd (d := 0) (by omega) (by have := L.n_cases hok; omega)
  rw [Int.add_zero] at a0 a1
  rcases L.n_cases hok with ⟨hn, hB⟩ | ⟨hn, hB⟩
  · rw [if_pos hB, if_pos hB, imF_octAt L hok f _ a0 a1]
  · obtain ⟨b0, b1, _⟩ := L.coords hok hd (d := 1) (by omega) (by omega)
    rw [if_neg (by omega), if_neg (by omega), imF_octAt L hok f _ a0 a1, imF_octAt L hok f _ b0 b1]

theorem imF_congr (L : Lay) (hok : L.ok) (f g : Int → Int → Int → Int) (h : ∀ x y c, L.dom x y c → f x y c = g x y c) : imF L f = imF L g := by
  unfold imF
  rw [octS_congr _ _ _ fun p p0 p1 => L.octF_congr hok h p0 (by omega)]

theorem Im.eq_imF (I : Im) (h : I.vB = true) : I = imF I.L (I.L.fn I.O) := by
  obtain ⟨L, O⟩ := I
  have hv := vB_yes h
  dsimp only at hv
  unfold imF
  dsimp only
  congr 1
  rw [← octS_octAt O, show O.size = L.len.toNat by have := hv.2.1; omega]
  refine octS_congr _ _ _ fun p p0 p1 => ?_
  have hl : L.len.toNat = O.size := by have := hv.2.1; omega
  rw [show octS L.len.toNat (octAt O) = O by rw [hl]; exact octS_octAt O]
  exact (L.octF_smp hv.1 (octAt O) (octAt_range O) hv.2.2 p0 (by omega)).symm

theorem Im.fits (I : Im) (h : I.vB = true) : Fits I.L (I.L.fn I.O) := fun x y c _ => I.L.smp_bd (vB_yes h).1 (octAt I.O) (octAt_range I.O) x y c

theorem Im.ok {I : Im} (h : I.vB = true) : I.L.ok := (vB_yes h).1

/-- images of the same layout whose samples are the same are the same -/
theorem Im.ext_fn (I J : Im) (hL : I.L = J.L) (hI : I.vB = true) (hJ : J.vB = true) (h : ∀ x y c, I.L.dom x y c → I.L.fn I.O x y c = J.L.fn J.O x y c) : I = J := by
  rw [I.eq_imF hI, J.eq_imF hJ, ← hL]
  exact imF_congr _ (Im.ok hI) _ _ fun x y c hd => by rw [h x y c hd, hL]

theorem putF_fits (L : Lay) (f : Int → Int → Int → Int) (hf : Fits L f) (x y : Int) (xs : List Int) (hx : ∀ v ∈ xs, 0 ≤ v ∧ v < if L.B = 8 then 256 else 65536) (k : Nat) (hk : k ≤ xs.length) : Fits L (putF f x y xs k) := by
  intro i j c hd
  unfold putF
  split
  · rename_i h
    have hc : c.toNat < xs.length := by omega
    rw [List.getElem?_eq_getElem hc, Option.getD_some]
    exact hx _ (List.getElem_mem hc)
  · exact hf i j c hd

end Go.Proofs.Ytphfbjeaklpddaa
