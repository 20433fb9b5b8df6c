/-
  Layer 42: Shape.
-/
import Derived.Test.YtphfbjeaklpddaaJp
namespace Go.Proofs.Ytphfbjeaklpddaa
open Go.RowKit Go.Shelf

attribute [local go_sem] Oper.semAt_some

set_option maxRecDepth 100000 in
set_option maxHeartbeats 4000000 in
theorem shape_ok1b (L : Lay) (O : ByteArray) (bits : Int) (planar : Bool) (pad : Int) (w : World) (hn : L.valid O) (hm : Shp L.W L.H L.C bits pad) (h1 : (bits == L.B) = true) (h4 : ¬ L.B < bits) (h5 : ¬ bits < L.B) (h2 : (planar == L.pl) = true) (h3 : (pad == L.P) = false) :
    Calls Try.prog 25 #[L.img O, .int .i64 bits, .bool planar, .int .i64 pad] w fun e w' => e = .returned (.tuple #[(L.lay bits planar pad).img (octS (L.lay bits planar pad).len.toNat ((L.lay bits planar pad).octF fun a b c => chg1 (L.fn O a b c))), .int .i64 0]) ∧ Below w.heap.size w w' := by
  have HO := fun w => open_ok L O w hn
  have HB := fun w => blank_good (L.lay bits planar pad) ⟨#[]⟩ w hm
  unfold Lay.img Lay.lay at HB
  unfold Lay.img at HO ⊢
  have HO' := Lib.hid HO
  have HB' := Lib.hid HB
  have hok := hn.1
  clear HO HB
  refine calls_marks 3 Try.func25 rfl ?_
  simp only [Try.ntmps25, List.size_toArray, List.length_cons, List.length_nil, Nat.reduceAdd, Nat.reduceSub, Array.replicate_succ, Array.replicate_zero, List.push_toArray, List.append_toArray, List.nil_append, List.cons_append]
  go_wp2_with fail
  (with_reducible refine (HO'.out _).mono ?_)
  rintro e w1 ⟨b, b2, rfl, hv, hb⟩
  obtain ⟨hc, hf, hz⟩ := after hb
  simp only [World.size_alloc] at hz
  have hx : w.heap.size < w1.heap.size := by omega
  have hx' : w.heap.size + 1 < w1.heap.size := by omega
  have hxx : w.heap.size < w1.heap.size + 1 := by omega
  have hxx' : w.heap.size + 1 < w1.heap.size + 1 := by omega
  have hxy : w.heap.size < w1.heap.size + 1 + 1 := by omega
  have hxy' : w.heap.size + 1 < w1.heap.size + 1 + 1 := by omega
  have HV := Lib.hid hv
  clear hv
  go_wp2_with fail
  (with_reducible refine (HB'.out _).mono ?_)
  rintro e w2 ⟨c, c2, rfl, hu, hb2⟩
  obtain ⟨hc2, hf2, hz2⟩ := after hb2
  simp only [World.size_alloc] at hz2
  have hx2 : w.heap.size < w2.heap.size := by omega
  have hx2' : w.heap.size + 1 < w2.heap.size := by omega
  have hy2 : w1.heap.size < w2.heap.size := by omega
  have hy2' : w1.heap.size < w2.heap.size + 1 := by omega
  have hy2'' : w1.heap.size < w2.heap.size + 1 + 1 := by omega
  have hx3 : w.heap.size < w2.heap.size + 1 := by omega
  have hx3' : w.heap.size < w2.heap.size + 1 + 1 := by omega
  have HU := Lib.hid hu
  clear hu
  go_wp2_with fail
  obtain ⟨W0, hW0⟩ : ∃ W0, W0 = (w2.alloc (.cells #[.pointer (some ⟨c, 0, none⟩)] 80)).alloc (.cells #[.func (.func 53) #[] #[]] 96) := ⟨_, rfl⟩
  have hB2 : Below w2.heap.size w2 W0 := by rw [hW0]; exact ((Below.refl _ _).alloc (Nat.le_refl _) _).alloc (by simp) _
  have hB1 : Below w1.heap.size w1 W0 := by
    refine Below.trans ?_ (hB2.mono (by omega))
    ((repeat (first | (with_reducible exact Below.refl _ _) | (with_reducible refine Below.setCell ?_ ?_ _) | (with_reducible refine Below.alloc ?_ ?_ _) | (with_reducible refine Below.drew ?_) | (with_reducible refine Below.trans ?_ (Below.mono (by assumption) ?_)))); all_goals ((try simp only [World.size_alloc, World.size_drew, World.size_setCell]); omega))
  have hs0 : W0.heap.size = w2.heap.size + 1 + 1 := by rw [hW0]; simp
  have k10 : W0.cell? ⟨w1.heap.size, 0, none⟩ = some (.pointer (some ⟨b, 0, none⟩)) := by rw [hW0]; go_simp
  have k14 : W0.cell? ⟨w2.heap.size, 0, none⟩ = some (.pointer (some ⟨c, 0, none⟩)) := by rw [hW0]; go_simp
  have k15 : W0.cell? ⟨w2.heap.size + 1, 0, none⟩ = some (.func (.func 53) #[] #[]) := by rw [hW0]; go_simp
  have hcc := HU.out.b1
  have hcc2 := HU.out.b2
  have hbl := HV.out.lt
  have hbl2 := HV.out.lt2 hok
  have hcl := HU.out.lt
  have hcl2 := HU.out.lt2 hm
  simp only [World.size_alloc] at hcc hcc2
  have hVs := HV.out.below hok hB1
  have hVt := HU.out.below hm hB2
  have KB1 := Lib.hid hB1
  have KB2 := Lib.hid hB2
  have KVS := Lib.hid hVs
  have KVT := Lib.hid hVt
  have K10 := Lib.hid k10
  have K14 := Lib.hid k14
  have K15 := Lib.hid k15
  rw [← hW0]
  have HW0 := Lib.hid hW0
  clear hW0 hB1 hB2 hVs hVt k10 k14 k15
  have hseq := pixels_seq L hok 2 b W0 KVS.out.hd
  refine wp_rangeSeq 3 (by omega) (gf := 56) (first := #[.pointer (some ⟨b, 0, none⟩)]) (caps := #[]) rfl (enters_of Try.func56 (by kernel_rfl) rfl) hseq (fun _ => rfl) (fun h k => k.trans h)
    (fun W l o o' hl _ _ => World.putObj_heap_other (by omega))
    (fun k W => View W w.heap.size c c2 (L.lay bits planar pad) ((L.lay bits planar pad).octF (shpF (L.fn O) chg1 L.W k)) ∧ Upd c2 W0 W) ?bears ?start ?act ?assign ?body ?done
  case assign =>
    intro l x W K hK
    unfold pencs
    gi_wp2
    exact hK
  case bears =>
    exact ⟨fun k W o h => ⟨h.1.below hm ((Below.refl _ _).alloc (Nat.le_refl _) _), h.2.trans (Upd.of_below ((Below.refl _ _).alloc (Nat.le_refl _) _))⟩,
      fun k W l o o' h hl ho hc => ⟨h.1.put hm o' ho hc, h.2.put o' hl⟩⟩
  case start =>
    refine ⟨(KVT.out.weaken (by simp only [World.size_alloc]; omega)).congr fun p p0 p1 => ?_, Upd.refl _ _⟩
    rw [← Lay.octF_zero (L.lay bits planar pad) p]
    exact Lay.octF_congr (L.lay bits planar pad) hm (fun a b' c' hd => (shpF_zero _ _ _ _ _ _ hd.1.1 hd.2.1.1 (by have := hok.w1; omega)).symm) p0 p1
  case body =>
    rintro l k ⟨x, y⟩ W hx ⟨hvt, hU⟩
    have hkx := pxl_of hx
    obtain ⟨hkk, hxw, hyh⟩ := hkx
    have hs0' := hs0
    have c10 : W.cell? ⟨w1.heap.size, 0, none⟩ = some (.pointer (some ⟨b, 0, none⟩)) := (hU.cell (p := ⟨w1.heap.size, 0, none⟩) (by show w1.heap.size < _; omega) (by show w1.heap.size ≠ _; omega)).trans K10.out
    have c14 : W.cell? ⟨w2.heap.size, 0, none⟩ = some (.pointer (some ⟨c, 0, none⟩)) := (hU.cell (p := ⟨w2.heap.size, 0, none⟩) (by show w2.heap.size < _; omega) (by show w2.heap.size ≠ _; omega)).trans K14.out
    have c15 : W.cell? ⟨w2.heap.size + 1, 0, none⟩ = some (.func (.func 53) #[] #[]) := (hU.cell (p := ⟨w2.heap.size + 1, 0, none⟩) (by show w2.heap.size + 1 < _; omega) (by show w2.heap.size + 1 ≠ _; omega)).trans K15.out
    have hsrc := KVS.out.upd hok hU (by omega) (by omega)
    have HP := Lib.hid (pixel_any L hok _ b b2 (octAt O) (octAt_range O) x y W hsrc (by omega) (by omega) (by omega) (by omega))
    clear hs0'
    obtain ⟨cn, hcn⟩ : ∃ cn, cn = L.C.toNat := ⟨_, rfl⟩
    rw [← hcn] at HP
    have hc1 := hok.c1
    have hc2' := hok.c2
    have hcn4 : cn ≤ 4 := by omega
    have hrng : ∀ j, 0 ≤ L.fn O x y j ∧ L.fn O x y j < 65536 := fun j => by
      have := L.smp_bd hok (octAt O) (octAt_range O) x y j
      refine ⟨this.1, Int.lt_of_lt_of_le this.2 ?_⟩
      split <;> omega
    have hlc2 := hvt.lt2 hm
    have HVT := Lib.hid hvt
    have HUW := Lib.hid hU
    have HCN := Lib.hid hcn
    have HRNG := Lib.hid hrng
    have HKK := Lib.hid hkk
    clear hvt hU hcn hrng hkk hsrc
    gi_wp2_with fail
    refine ⟨trivial, ?_⟩
    refine CallsIn.mono (CallsIn.inRound l (callsIn_wide.2 HP.out)) ?_
    rintro e w3 ⟨b3, cap3, rfl, hi3, hz3, hl3, hb3⟩
    obtain ⟨W2, hW2⟩ : ∃ W2, W2 = w3.alloc (.cells #[.slice (some ⟨b3, 0, none⟩) cn cap3] 44) := ⟨_, rfl⟩
    have hW2b : Below w3.heap.size w3 W2 := by rw [hW2]; exact (Below.refl _ _).alloc (Nat.le_refl _) _
    have hb32 : Below W.heap.size W W2 := hb3.trans (hW2b.mono hb3.size)
    have hsW2 : W2.heap.size = w3.heap.size + 1 := by rw [hW2]; simp
    have hszw := hb3.size
    have d14 : W2.cell? ⟨w2.heap.size, 0, none⟩ = some (.pointer (some ⟨c, 0, none⟩)) := (hb32.cell (p := ⟨w2.heap.size, 0, none⟩) (World.block_lt_of_cell? _ _ c14)).trans c14
    have d15 : W2.cell? ⟨w2.heap.size + 1, 0, none⟩ = some (.func (.func 53) #[] #[]) := (hb32.cell (p := ⟨w2.heap.size + 1, 0, none⟩) (World.block_lt_of_cell? _ _ c15)).trans c15
    have d18 : W2.cell? ⟨w3.heap.size, 0, none⟩ = some (.slice (some ⟨b3, 0, none⟩) cn cap3) := by rw [hW2]; go_simp
    have hi3' : Ints W2 (some ⟨b3, 0, none⟩) ((List.range cn).map fun i => L.fn O x y (i : Nat)) := hi3.below hW2b
    have hmd : ∀ V, Below W2.heap.size W2 V → Calls Try.prog 57 #[.int .i64 cn, .func (.func 58) #[] #[.pointer (some ⟨w2.heap.size + 1, 0, none⟩), .pointer (some ⟨w3.heap.size, 0, none⟩)]] V (MadePost (fun j => chg1 (L.fn O x y j)) cn V) := fun V hV =>
      made_58 cn (by omega) _ _ (fun j => chg1 (L.fn O x y j)) V (fun j V' hj hV' => by
        have hVV : Below W2.heap.size W2 V' := hV.trans (hV'.mono hV.size)
        have hcell : V'.cell? ⟨b3, 0 + j, none⟩ = some (.int .i64 (L.fn O x y j)) := by
          obtain ⟨bq, oq, vq, hq1, hq2, hq3⟩ := (hi3'.below hVV).at (k := j) (by simpa using hj)
          cases hq1
          have := hq3.out
          simp [hj] at this
          rw [hq2, ← this]
        exact shp4_1 _ _ b3 0 cn cap3 j _ V' hj hcn4 ((hVV.cell (p := ⟨w2.heap.size + 1, 0, none⟩) (World.block_lt_of_cell? _ _ d15)).trans d15) ((hVV.cell (p := ⟨w3.heap.size, 0, none⟩) (World.block_lt_of_cell? _ _ d18)).trans d18) hcell (HRNG.out j).1 (HRNG.out j).2)
    have hpt : ∀ V b4 cap4, Ints V (some ⟨b4, 0, none⟩) ((List.range cn).map fun j => chg1 (L.fn O x y (j : Nat))) → Below W2.heap.size W2 V → W2.heap.size ≤ b4 →
        Calls Try.prog 51 #[.pointer (some ⟨c, 0, none⟩), .int .i64 x, .int .i64 y, .slice (some ⟨b4, 0, none⟩) cn cap4] V (PutPost (L.lay bits planar pad) w.heap.size c c2 (shpF (L.fn O) chg1 L.W k) x y ((List.range cn).map fun j => chg1 (L.fn O x y (j : Nat))) V) := fun V b4 cap4 hiV hV hb4 => by
      have hlen : ((List.range cn).map fun j => chg1 (L.fn O x y (j : Nat))).length = cn := by simp
      have := put_any (L.lay bits planar pad) hm w.heap.size c c2 (shpF (L.fn O) chg1 L.W k) x y _ (some ⟨b4, 0, none⟩) cap4 V ((HVT.out.below hm hb32).below hm hV) (by omega) (by show (x : Int) < L.W; omega) (by omega) (by show (y : Int) < L.H; omega) hiV (by rw [hlen]; show (cn : Int) ≤ L.C; have := HCN.out; omega) (fun c' off e => by cases e; omega)
      rw [hlen] at this
      exact this
    have HMD := Lib.hid hmd
    have HPT := Lib.hid hpt
    have HB32 := Lib.hid hb32
    clear hmd hpt hi3 hi3' hb3 hb32 hW2b c10 c14 c15
    gi_wp2_with fail
    rw [← hW2]
    have HW2 := Lib.hid hW2
    clear hW2
    refine wpIn_round_held l _ (by kernel_rfl) (by kernel_rfl) (by rintro ⟨_, _, h⟩; exact h) (S := fun V => V.cell? ⟨w2.heap.size, 0, none⟩ = some (.pointer (some ⟨c, 0, none⟩)) ∧ V.cell? ⟨w3.heap.size, 0, none⟩ = some (.slice (some ⟨b3, 0, none⟩) cn cap3)) ⟨d14, d18⟩ (fun hHeld => ?_)
    refine wpAnyH_take (i := 0) (v := .pointer (some ⟨c, 0, none⟩)) rfl (by kernel_rfl) (by kernel_rfl) (by kernel_rfl) (fun _ _ _ h => h) (Or.inl ⟨by rfl, ?_⟩) hHeld ?_
    · intro V hV
      obtain ⟨hV1, hV2⟩ := hV
      go_simp
    simp only [Act.put, List.setIfInBounds_toArray, List.set_cons_zero, List.set_cons_succ]
    refine wpAnyH_take (i := 1) (v := .int .i64 x) rfl (by kernel_rfl) (by kernel_rfl) (by kernel_rfl) (fun _ _ _ h => h) (Or.inl ⟨by rfl, ?_⟩) hHeld ?_
    · intro V hV
      obtain ⟨hV1, hV2⟩ := hV
      go_simp
    simp only [Act.put, List.setIfInBounds_toArray, List.set_cons_zero, List.set_cons_succ]
    refine wpAnyH_take (i := 2) (v := .int .i64 y) rfl (by kernel_rfl) (by kernel_rfl) (by kernel_rfl) (fun _ _ _ h => h) (Or.inl ⟨by rfl, ?_⟩) hHeld ?_
    · intro V hV
      obtain ⟨hV1, hV2⟩ := hV
      go_simp
    simp only [Act.put, List.setIfInBounds_toArray, List.set_cons_zero, List.set_cons_succ]
    refine wpAnyH_take (i := 3) (v := .slice (some ⟨b3, 0, none⟩) cn cap3) rfl (by kernel_rfl) (by kernel_rfl) (by kernel_rfl) (fun _ _ _ h => h) (Or.inl ⟨by rfl, ?_⟩) hHeld ?_
    · intro V hV
      obtain ⟨hV1, hV2⟩ := hV
      go_simp
    simp only [Act.put, List.setIfInBounds_toArray, List.set_cons_zero, List.set_cons_succ]
    refine wpAnyH_take (i := 4) (v := .int .i64 cn) rfl (by kernel_rfl) (by kernel_rfl) (by kernel_rfl) (fun _ _ _ h => h) (Or.inl ⟨by rfl, ?_⟩) hHeld ?_
    · intro V hV
      obtain ⟨hV1, hV2⟩ := hV
      go_simp
    simp only [Act.put, List.setIfInBounds_toArray, List.set_cons_zero, List.set_cons_succ]
    refine wpAnyH_take (i := 5) (v := .func (.func 58) #[] #[.pointer (some ⟨w2.heap.size + 1, 0, none⟩), .pointer (some ⟨w3.heap.size, 0, none⟩)]) rfl (by kernel_rfl) (by kernel_rfl) (by kernel_rfl) (fun _ _ _ h => h) (Or.inl ⟨by rfl, ?_⟩) hHeld ?_
    · intro V hV
      obtain ⟨hV1, hV2⟩ := hV
      go_simp
    simp only [Act.put, List.setIfInBounds_toArray, List.set_cons_zero, List.set_cons_succ]
    refine wpAnyH_ready (rs := [6]) (by kernel_rfl) (by simp) ?_
    refine AllReadyH.cons rfl (fun K hK => ?_) AllReadyH.nil
    go_simp
    (with_reducible refine (HMD.out _ (Below.drew (Below.refl _ _))).mono ?_)
    rintro e w4 ⟨b4, cap4, rfl, hi4, hb4, hl4, hbw4⟩
    have hbw4' : Below W2.heap.size W2 w4 := (Below.drew (Below.refl _ _)).trans hbw4
    have e14 : w4.cell? ⟨w2.heap.size, 0, none⟩ = some (.pointer (some ⟨c, 0, none⟩)) := (hbw4'.cell (p := ⟨w2.heap.size, 0, none⟩) (World.block_lt_of_cell? _ _ d14)).trans d14
    have e18 : w4.cell? ⟨w3.heap.size, 0, none⟩ = some (.slice (some ⟨b3, 0, none⟩) cn cap3) := (hbw4'.cell (p := ⟨w3.heap.size, 0, none⟩) (World.block_lt_of_cell? _ _ d18)).trans d18
    have HH := HPT.out w4 b4 cap4 hi4 hbw4' hb4
    have HHD := Lib.hid HH
    have HBW4 := Lib.hid hbw4'
    clear HH hi4 hb4 hl4 hbw4 hbw4' hHeld
    refine hK.out _ _ ⟨e14, e18⟩ (fun hHeld => ?_)
    clear hK
    try simp only [Act.put, List.setIfInBounds_toArray, List.set_cons_zero, List.set_cons_succ]
    refine wpAnyH_ready (rs := [7]) (by kernel_rfl) (by simp) ?_
    refine AllReadyH.cons rfl (fun K hK => ?_) AllReadyH.nil
    go_simp
    (with_reducible refine HHD.out.mono ?_)
    rintro e w5 ⟨rfl, hv5, hu5⟩
    have hu5' : Upd c2 W w5 := (Upd.of_below HB32.out).trans ((Upd.of_below HBW4.out).trans hu5)
    have hlt14 := World.block_lt_of_cell? _ _ d14
    have hcl2' := HU.out.lt2 hm
    have e14' : w5.cell? ⟨w2.heap.size, 0, none⟩ = some (.pointer (some ⟨c, 0, none⟩)) := (hu5.cell (p := ⟨w2.heap.size, 0, none⟩) (World.block_lt_of_cell? _ _ e14) (by show w2.heap.size ≠ _; omega)).trans e14
    have e18' : w5.cell? ⟨w3.heap.size, 0, none⟩ = some (.slice (some ⟨b3, 0, none⟩) cn cap3) := (hu5.cell (p := ⟨w3.heap.size, 0, none⟩) (World.block_lt_of_cell? _ _ e18) (by show w3.heap.size ≠ _; omega)).trans e18
    refine hK.out _ _ ⟨e14', e18'⟩ (fun _ => ?_)
    clear hK
    refine wpAnyH_done (by kernel_rfl) ?_ _
    have hbne : b ≠ c2 := by have := KB1.out.size; omega
    have hKp : w5.heap[b]? = W.heap[b]? := hu5'.block b (by have := HUW.out.size; have := KB1.out.size; omega) hbne
    show KeepsOthers W w5 ∧ w5.heap[b]? = W.heap[b]? ∧ (View w5 w.heap.size c c2 (L.lay bits planar pad) ((L.lay bits planar pad).octF (shpF (L.fn O) chg1 L.W (k + 1))) ∧ Upd c2 W0 w5)
    refine ⟨Upd.others hu5' (HVT.out.bt 0 (by have := (L.lay bits planar pad).len_bd hm; omega)).1, hKp, hv5.congr fun p p0 p1 => ?_, HUW.out.trans hu5'⟩
    refine Lay.octF_congr (L.lay bits planar pad) hm (fun a b' c' hd => ?_) p0 p1
    exact shpF_put' (L.fn O) chg1 L.W (by omega) x y k HKK.out hxw cn a b' c' hd.1.1 hd.1.2 hd.2.1.1 hd.2.2.1 (by have := HCN.out; have h := hd.2.2.2; have : c' < L.C := h; omega)
  case done =>
    rintro D W hD ⟨hvt, hU⟩ hdd
    have hvd : View W w.heap.size c c2 (L.lay bits planar pad) ((L.lay bits planar pad).octF fun a b c => chg1 (L.fn O a b c)) := by
      refine hvt.congr fun p p0 p1 => ?_
      refine Lay.octF_congr (L.lay bits planar pad) hm (fun a b' c' hd => ?_) p0 p1
      rw [pxl_length]
      exact shpF_full (L.fn O) chg1 L.W L.H a b' c' hd.1.1 hd.1.2 hd.2.1.1 hd.2.1.2
    have hCL := closed_any (L.lay bits planar pad) hm w.heap.size c c2 _ W hvd
    have c14 : W.cell? ⟨w2.heap.size, 0, none⟩ = some (.pointer (some ⟨c, 0, none⟩)) := (hU.cell (p := ⟨w2.heap.size, 0, none⟩) (by show w2.heap.size < _; omega) (by show w2.heap.size ≠ _; omega)).trans K14.out
    unfold Lay.img at hCL
    have HCL := Lib.hid hCL
    have HUW := Lib.hid hU
    have HDD := Lib.hid hdd
    have HVD := Lib.hid hvd
    clear hvt hU hdd hCL hvd
    show Exit.inBlock _ _ _ _ _
    go_wp2_with fail
    (with_reducible refine HCL.out.mono ?_)
    rintro e w6 ⟨rfl, hu6⟩
    have hDD := HDD.out
    have hD1 : D < W.heap.size := (Array.getElem?_eq_some_iff.1 hDD).1
    have hd6 : w6.heap[D]? = some (.deferred (some [])) := (hu6.block D hD1 (by omega)).trans hDD
    have huu : Upd c2 W0 W := HUW.out
    have hszW := huu.size
    have k8 : ∀ o, w6.cell? ⟨w.heap.size + 1, o, none⟩ = w1.cell? ⟨w.heap.size + 1, o, none⟩ := fun o =>
      (hu6.cell (p := ⟨w.heap.size + 1, o, none⟩) (by show w.heap.size + 1 < _; omega) (by show w.heap.size + 1 ≠ _; omega)).trans
        ((huu.cell (p := ⟨w.heap.size + 1, o, none⟩) (by show w.heap.size + 1 < _; omega) (by show w.heap.size + 1 ≠ _; omega)).trans
          (KB1.out.cell (p := ⟨w.heap.size + 1, o, none⟩) hx'))
    have f8 : ∀ o, w6.frozen? ⟨w.heap.size + 1, o, none⟩ = w1.frozen? ⟨w.heap.size + 1, o, none⟩ := fun o =>
      (hu6.frozen (p := ⟨w.heap.size + 1, o, none⟩) (by show w.heap.size + 1 < _; omega) (by show w.heap.size + 1 ≠ _; omega)).trans
        ((huu.frozen (p := ⟨w.heap.size + 1, o, none⟩) (by show w.heap.size + 1 < _; omega) (by show w.heap.size + 1 ≠ _; omega)).trans
          (KB1.out.frozen (p := ⟨w.heap.size + 1, o, none⟩) hx'))
    clear hDD
    have HD6 := Lib.hid hd6
    clear hd6
    go_wp2_with fail
    have hne8 : D ≠ w.heap.size + 1 := by omega
    refine ⟨by simp, .inl ⟨_, _, rfl, run_takeDeferred (ds := []) ?_, ?_⟩⟩
    · have hsc : ∀ (V : World) o u, (V.setCell ⟨w.heap.size + 1, o, none⟩ u).heap[D]? = V.heap[D]? := fun V o u => Below.heap_setCell V ⟨w.heap.size + 1, o, none⟩ u D hne8
      simp only [hsc]
      exact HD6.out
    have hput : ∀ (V : World) (ob : Obj) o, (V.putObj D ob).cell? ⟨w.heap.size + 1, o, none⟩ = V.cell? ⟨w.heap.size + 1, o, none⟩ := fun V ob o => World.cell?_of_block (a := ⟨w.heap.size + 1, o, none⟩) (World.putObj_heap_other hne8.symm)
    refine ⟨.tuple #[(L.lay bits planar pad).img (octS (L.lay bits planar pad).len.toNat ((L.lay bits planar pad).octF fun a b c => chg1 (L.fn O a b c))), .int .i64 0], ?_, rfl, ?_⟩
    · simp [results, Try.results25, go_sem, hput, k8, hc, hx, hx', Lay.img]
    · have g1 : Below w.heap.size w w1 := by
        ((repeat (first | (with_reducible exact Below.refl _ _) | (with_reducible refine Below.setCell ?_ ?_ _) | (with_reducible refine Below.alloc ?_ ?_ _) | (with_reducible refine Below.drew ?_) | (with_reducible refine Below.trans ?_ (Below.mono (by assumption) ?_)))); all_goals ((try simp only [World.size_alloc, World.size_drew, World.size_setCell]); omega))
      have g2 : Below w.heap.size w W0 := g1.trans (KB1.out.mono (by omega))
      have g3 : Below w.heap.size w W := g2.trans (HUW.out.below (by omega) (by omega))
      have g4 : Below w.heap.size w w6 := g3.trans (hu6.below (by omega) (by omega))
      refine Below.putObj ?_ (by omega) _
      ((repeat (first | (with_reducible exact Below.refl _ _) | (with_reducible refine Below.setCell ?_ ?_ _) | (with_reducible refine Below.alloc ?_ ?_ _) | (with_reducible refine Below.drew ?_) | (with_reducible refine Below.trans ?_ (Below.mono (by assumption) ?_)))); all_goals ((try simp only [World.size_alloc, World.size_drew, World.size_setCell]); omega))

end Go.Proofs.Ytphfbjeaklpddaa
