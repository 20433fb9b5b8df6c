/-
  Layer 42: the iterator over the pixels.
-/
import Derived.Test.YtphfbjeaklpddaaJl
import Derived.Test.YtphfbjeaklpddaaRange
namespace Go.Proofs.Ytphfbjeaklpddaa
open Go.RowKit Go.Shelf

attribute [local go_sem] Oper.semAt_some

/-- the pixels' columns and rows, in their order -/
def pxl (wn hn : Nat) : List (Nat × Nat) := (List.range (wn * hn)).map fun i => (i % wn, i / wn)

theorem pxl_at (wn hn x y : Nat) (hx : x < wn) (hy : y < hn) : (pxl wn hn)[y * wn + x]? = some (x, y) := by
  have h1 : (y + 1) * wn ≤ hn * wn := Nat.mul_le_mul_right wn hy
  rw [Nat.add_mul, Nat.one_mul] at h1
  have h2 : y * wn + x < wn * hn := by rw [Nat.mul_comm wn hn]; omega
  have h3 : (y * wn + x) % wn = x := by rw [Nat.mul_comm, Nat.mul_add_mod]; exact Nat.mod_eq_of_lt hx
  have h4 : (y * wn + x) / wn = y := by rw [Nat.mul_comm, Nat.mul_add_div (by omega), Nat.div_eq_of_lt hx]; rfl
  simp [pxl, h2, h3, h4]

theorem pxl_length (wn hn : Nat) : (pxl wn hn).length = hn * wn := by simp [pxl, Nat.mul_comm]

theorem pxl_of {wn hn k : Nat} {x y : Nat} (h : (pxl wn hn)[k]? = some (x, y)) : k = y * wn + x ∧ x < wn ∧ y < hn := by
  obtain ⟨hk, e⟩ := List.getElem?_eq_some_iff.1 h
  have hk' : k < wn * hn := by simpa [pxl] using hk
  have hw : 0 < wn := Nat.pos_of_ne_zero (by rintro rfl; simp at hk')
  simp [pxl] at e
  obtain ⟨rfl, rfl⟩ := e
  exact ⟨by rw [Nat.mul_comm]; exact (Nat.div_add_mod k wn).symm, Nat.mod_lt _ hw, Nat.div_lt_of_lt_mul hk'⟩

def pencs (p : Nat × Nat) : Array Value := #[.int .i64 (p.1 : Int), .int .i64 (p.2 : Int)]

set_option maxRecDepth 100000 in
set_option maxHeartbeats 4000000 in
theorem pixels_seq (L : Lay) (hok : L.ok) (n : Nat) (b : Nat) (w0 : World) (hv : Vw w0 b L.W L.H L.C L.B L.pl L.P) :
    SeqAll n Try.prog 56 #[.pointer (some ⟨b, 0, none⟩)] #[] pencs (pxl L.W.toNat L.H.toNat) (fun A B => B.heap[b]? = A.heap[b]?) w0 := by
  intro l J W hW hY h0
  have hvW := hv.below hW
  have hlt := hvW.lt
  obtain ⟨v0, v1, v2, v3, v4, v5⟩ := hvW
  have q1 := hok.w1
  have q2 := hok.w2
  have q3 := hok.h1
  have q4 := hok.h2
  obtain ⟨wn, hwn⟩ := Int.eq_ofNat_of_zero_le (a := L.W) (by omega)
  obtain ⟨hn, hhn⟩ := Int.eq_ofNat_of_zero_le (a := L.H) (by omega)
  rw [hwn] at v0
  rw [hhn] at v1
  rw [hwn, hhn] at hY ⊢
  rw [Int.toNat_natCast, Int.toNat_natCast] at *
  rw [pxl_length]
  have HY := Lib.hid hY
  have r1 : wn ≤ 64 := by omega
  have r2 : hn ≤ 64 := by omega
  clear hY hwn hhn q1 q2 q3 q4
  refine callsIn_of_wp Try.func56 rfl trivial ?_ rfl
  simp only [Try.ntmps56, List.size_toArray, List.length_cons, List.length_nil, Nat.reduceAdd, Nat.reduceSub, Array.replicate_succ, Array.replicate_zero, List.push_toArray, List.append_toArray, List.nil_append, List.cons_append]
  gi_wp2
  gi_loopw [4, 11] (fun _ i wr => ∃ y : Nat, y ≤ hn ∧ i = .int .i64 y ∧ J (y * wn) wr ∧ wr.heap[b]? = W.heap[b]?) (fun _ i _ => hn - (intOf i).toNat)
  case atStart => exact ⟨0, Nat.zero_le _, rfl, by rw [Nat.zero_mul]; exact h0, rfl⟩
  case round =>
    obtain ⟨y, hy, rfl, hJ, hb⟩ := hrel
    have v0' : wr.cell? ⟨b, 0, none⟩ = some (.int .i64 (wn : Int)) := (World.cell?_of_block (a := ⟨b, 0, none⟩) hb).trans v0
    have HB := Lib.hid hb
    clear hb
    by_cases hyl : y < hn
    · gi_wp2
      gi_loopw [5, 19] (fun _ j wq => ∃ x : Nat, x ≤ wn ∧ j = .int .i64 x ∧ J (y * wn + x) wq ∧ wq.heap[b]? = W.heap[b]?) (fun _ j _ => wn - (intOf j).toNat)
      case atStart => exact ⟨0, Nat.zero_le _, rfl, hJ, HB.out⟩
      case round =>
        obtain ⟨x, hx, rfl, hJx, hbx⟩ := hrel
        have HBX := Lib.hid hbx
        clear hbx
        by_cases hxl : x < wn
        · obtain ⟨fn, tmps, assign, body, hyy, hR⟩ := HY.out _ (x, y) wr (pxl_at wn hn x y hxl hyl) hJx
          dsimp only [pencs] at hyy
          gi_wp2
          refine ⟨fun h => by simp [Fence.wide] at h, hR.mono ?_⟩
          rintro e W3 ⟨rfl, hJ3, hk3⟩
          have HK3 := Lib.hid hk3
          clear hk3
          gi_wp2
          go_roundw
          case rel => exact ⟨x + 1, by omega, by go_num, hJ3, HK3.out.trans HBX.out⟩
          case measure => simp [intOf]; omega
        · have hxx : x = wn := by omega
          have hJ' : J ((y + 1) * wn) wr := by rw [hxx] at hJx; rw [Nat.add_mul, Nat.one_mul]; exact hJx
          clear hxx
          gi_wp2
          go_roundw
          case rel => exact ⟨y + 1, by omega, by go_num, hJ', HBX.out⟩
          case measure => simp [intOf]; omega
    · have hyy : y = hn := by omega
      have HYY := Lib.hid hyy
      clear hyy
      gi_wp2
      go_end0
      exact ⟨⟨_, rfl⟩, by rw [← HYY.out]; exact hJ⟩

end Go.Proofs.Ytphfbjeaklpddaa
