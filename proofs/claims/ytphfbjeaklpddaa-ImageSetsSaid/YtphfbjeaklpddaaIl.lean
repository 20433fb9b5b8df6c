/-
  Layer 42, the plain law of layouts: where the samples of an image stand in its octets. No program in sight.
-/
import Init
namespace Go.Proofs.Ytphfbjeaklpddaa

def inB (n lo hi : Int) : Bool := decide (lo ≤ n) && decide (n ≤ hi)


/-- the numbers of an image are right -/
structure Shp (W H C B P : Int) : Prop where
  w1 : 1 ≤ W
  w2 : W ≤ 64
  h1 : 1 ≤ H
  h2 : H ≤ 64
  c1 : 1 ≤ C
  c2 : C ≤ 4
  b : B = 8 ∨ B = 16
  p : P = 1 ∨ P = 2 ∨ P = 4 ∨ P = 8
  s : W * H * C ≤ 4096

def shpB (W H C B P : Int) : Bool :=
  inB W 1 64 && (inB H 1 64 && (inB C 1 4 && (decide (W * H * C ≤ 4096) && ((B == 8 || B == 16) && (P == 1 || P == 2 || P == 4 || P == 8)))))

theorem inB_iff (n lo hi : Int) : inB n lo hi = true ↔ lo ≤ n ∧ n ≤ hi := by simp [inB]
theorem inB_no (n lo hi : Int) : inB n lo hi = false ↔ ¬ (lo ≤ n ∧ n ≤ hi) := by rw [← inB_iff]; simp

theorem shpB_iff (W H C B P : Int) : shpB W H C B P = true ↔ Shp W H C B P := by
  simp only [shpB, Bool.and_eq_true, inB_iff, decide_eq_true_eq, Bool.or_eq_true, beq_iff_eq]
  constructor
  · rintro ⟨⟨a, b⟩, ⟨c, d⟩, ⟨e, f⟩, g, h, i⟩
    exact ⟨a, b, c, d, e, f, h, by omega, g⟩
  · rintro ⟨a, b, c, d, e, f, h, i, g⟩
    exact ⟨⟨a, b⟩, ⟨c, d⟩, ⟨e, f⟩, g, h, by omega⟩

def rowS (W C B : Int) (pl : Bool) : Int := if pl then W * B / 8 else W * C * B / 8

def strS (W C B : Int) (pl : Bool) (P : Int) : Int := (rowS W C B pl + P - 1) / P * P

def rowsS (H C : Int) (pl : Bool) : Int := if pl then H * C else H


theorem rowS_bd (W H C B P : Int) (pl : Bool) (h : Shp W H C B P) : 1 ≤ rowS W C B pl ∧ rowS W C B pl ≤ 512 := by
  obtain ⟨w1, w2, h1, h2, c1, c2, hb, hp, _⟩ := h
  unfold rowS
  have hc : C = 1 ∨ C = 2 ∨ C = 3 ∨ C = 4 := by omega
  rcases hc with rfl | rfl | rfl | rfl <;> rcases hb with rfl | rfl <;> cases pl <;> simp <;> omega

theorem strS_bd (W H C B P : Int) (pl : Bool) (h : Shp W H C B P) :
    rowS W C B pl ≤ strS W C B pl P ∧ strS W C B pl P ≤ 520 ∧ strS W C B pl P % P = 0 ∧ (∀ n, rowS W C B pl ≤ n → n ≤ strS W C B pl P → n % P = 0 → n = strS W C B pl P) := by
  obtain ⟨r1, r2⟩ := rowS_bd W H C B P pl h
  have hp := h.p
  unfold strS
  generalize rowS W C B pl = r at *
  rcases hp with rfl | rfl | rfl | rfl <;> (refine ⟨by omega, by omega, by omega, fun n => by omega⟩)


def plcS (W H C B : Int) (pl : Bool) (P : Int) (x y c : Int) : Int :=
  if pl then (c * H + y) * strS W C B pl P + x * B / 8 else y * strS W C B pl P + (x * C + c) * B / 8


theorem rowS_alt (W H C B P : Int) (pl : Bool) (h : Shp W H C B P) : rowS W C B pl = if pl then W * B / 8 else W * B / 8 * C := by
  obtain ⟨w1, w2, h1, h2, c1, c2, hb, hp, _⟩ := h
  unfold rowS
  have hc : C = 1 ∨ C = 2 ∨ C = 3 ∨ C = 4 := by omega
  rcases hc with rfl | rfl | rfl | rfl <;> rcases hb with rfl | rfl <;> cases pl <;> simp <;> omega


/-! ### octets -/
theorem dm (b q k : Int) (h0 : 0 ≤ k) (hb : k < b) : (q * b + k) / b = q ∧ (q * b + k) % b = k := by
  have hb0 : 0 < b := by omega
  constructor
  · rw [Int.add_comm, Int.add_mul_ediv_right _ _ (by omega), Int.ediv_eq_zero_of_lt h0 hb]; omega
  · rw [Int.add_comm, Int.add_mul_emod_self_right, Int.emod_eq_of_lt h0 hb]

structure Lay where
  W : Int
  H : Int
  C : Int
  B : Int
  pl : Bool
  P : Int

namespace Lay
variable (L : Lay)
def ok : Prop := Shp L.W L.H L.C L.B L.P
def row : Int := rowS L.W L.C L.B L.pl
def str : Int := strS L.W L.C L.B L.pl L.P
def rows : Int := rowsS L.H L.C L.pl
def len : Int := L.rows * L.str
def plc (x y c : Int) : Int := plcS L.W L.H L.C L.B L.pl L.P x y c
def n : Int := L.B / 8
def dom (x y c : Int) : Prop := (0 ≤ x ∧ x < L.W) ∧ (0 ≤ y ∧ y < L.H) ∧ (0 ≤ c ∧ c < L.C)
/-- the coordinates of a position -/
def cx (p : Int) : Int := if L.pl then p % L.str / L.n else p % L.str / L.n / L.C
def cy (p : Int) : Int := if L.pl then p / L.str % L.H else p / L.str
def cc (p : Int) : Int := if L.pl then p / L.str / L.H else p % L.str / L.n % L.C
def cd (p : Int) : Int := p % L.str % L.n
def pad (p : Int) : Prop := L.row ≤ p % L.str
instance (p : Int) : Decidable (L.pad p) := inferInstanceAs (Decidable (_ ≤ _))
/-- the octet number d of a value -/
def byt (d v : Int) : Int := if L.n = 2 ∧ d = 0 then v / 256 % 256 else v % 256
def octF (f : Int → Int → Int → Int) (p : Int) : Int :=
  if L.pad p then 0 else L.byt (L.cd p) (f (L.cx p) (L.cy p) (L.cc p))

theorem n_cases (h : L.ok) : (L.n = 1 ∧ L.B = 8) ∨ (L.n = 2 ∧ L.B = 16) := by
  have := h.b
  unfold n
  rcases this with e | e <;> rw [e] <;> simp

theorem plc_eq (h : L.ok) (x y c : Int) : L.plc x y c = if L.pl then (c * L.H + y) * L.str + x * L.n else y * L.str + (x * L.C + c) * L.n := by
  unfold plc plcS str
  rcases L.n_cases h with ⟨hn, hB⟩ | ⟨hn, hB⟩ <;> rw [hn, hB] <;> split <;> congr 1 <;> omega

theorem row_eq (h : L.ok) : L.row = if L.pl then L.W * L.n else L.W * L.C * L.n := by
  unfold row rowS
  rcases L.n_cases h with ⟨hn, hB⟩ | ⟨hn, hB⟩ <;> rw [hn, hB] <;> split <;> omega

theorem row_str (h : L.ok) : 1 ≤ L.row ∧ L.row ≤ L.str ∧ L.str ≤ 520 := by
  have h1 := rowS_bd L.W L.H L.C L.B L.P L.pl h
  have h2 := strS_bd L.W L.H L.C L.B L.P L.pl h
  exact ⟨h1.1, h2.1, h2.2.1⟩

theorem mul_lt {a b A : Int} (h : a < A) (hb : 0 < b) : a * b + b ≤ A * b := by
  have : (a + 1) * b ≤ A * b := Int.mul_le_mul_of_nonneg_right (by omega) (by omega)
  rw [Int.add_mul] at this; omega

/-- the place of an octet of a sample, and back -/
theorem coords (h : L.ok) {x y c d : Int} (hd : L.dom x y c) (d0 : 0 ≤ d) (dn : d < L.n) :
    0 ≤ L.plc x y c + d ∧ L.plc x y c + d < L.len ∧ ¬ L.pad (L.plc x y c + d) ∧ L.cx (L.plc x y c + d) = x ∧ L.cy (L.plc x y c + d) = y ∧ L.cc (L.plc x y c + d) = c ∧ L.cd (L.plc x y c + d) = d := by
  obtain ⟨⟨x0, xW⟩, ⟨y0, yH⟩, ⟨c0, cC⟩⟩ := hd
  obtain ⟨r1, r2, r3⟩ := L.row_str h
  have hn : 0 < L.n := by rcases L.n_cases h with ⟨e, _⟩ | ⟨e, _⟩ <;> omega
  have hH : 0 < L.H := by omega
  have hC : 0 < L.C := by omega
  rw [L.plc_eq h]
  have hr := L.row_eq h
  unfold len rows rowsS cx cy cc cd pad
  by_cases hp : L.pl = true
  · simp only [hp, if_true] at hr ⊢
    have e1 := mul_lt xW hn
    have x1 : 0 ≤ x * L.n := Int.mul_nonneg x0 (by omega)
    have k0 : 0 ≤ x * L.n + d := by omega
    have k1 : x * L.n + d < L.str := by omega
    obtain ⟨a1, a2⟩ := dm L.str (c * L.H + y) (x * L.n + d) k0 k1
    obtain ⟨a3, a4⟩ := dm L.n x d d0 dn
    obtain ⟨a5, a6⟩ := dm L.H c y y0 yH
    have q0 : 0 ≤ c * L.H + y := by have := Int.mul_nonneg c0 (by omega : 0 ≤ L.H); omega
    have q1 : c * L.H + y < L.H * L.C := by have := mul_lt cC hH; rw [Int.mul_comm L.H]; omega
    have e2 := mul_lt q1 (by omega : 0 < L.str)
    have q2 : 0 ≤ (c * L.H + y) * L.str := Int.mul_nonneg q0 (by omega)
    rw [Int.add_assoc]
    rw [a1, a2, a3, a4, a5, a6]
    refine ⟨by omega, by omega, by omega, rfl, rfl, rfl, rfl⟩
  · simp only [hp, if_false, Bool.false_eq_true] at hr ⊢
    have e0 := mul_lt xW hC
    have x1 : 0 ≤ x * L.C := Int.mul_nonneg x0 (by omega)
    have s1 : x * L.C + c < L.W * L.C := by omega
    have e1 := mul_lt s1 hn
    have s0 : 0 ≤ (x * L.C + c) * L.n := Int.mul_nonneg (by omega) (by omega)
    have k0 : 0 ≤ (x * L.C + c) * L.n + d := by omega
    have k1 : (x * L.C + c) * L.n + d < L.str := by omega
    obtain ⟨a1, a2⟩ := dm L.str y ((x * L.C + c) * L.n + d) k0 k1
    obtain ⟨a3, a4⟩ := dm L.n (x * L.C + c) d d0 dn
    obtain ⟨a5, a6⟩ := dm L.C x c c0 cC
    have e2 := mul_lt yH (by omega : 0 < L.str)
    have q2 : 0 ≤ y * L.str := Int.mul_nonneg y0 (by omega)
    rw [Int.add_assoc]
    rw [a1, a2, a3, a4, a5, a6]
    refine ⟨by omega, by omega, by omega, rfl, rfl, rfl, rfl⟩

theorem back (h : L.ok) {p : Int} (p0 : 0 ≤ p) (p1 : p < L.len) (hp : ¬ L.pad p) :
    L.dom (L.cx p) (L.cy p) (L.cc p) ∧ 0 ≤ L.cd p ∧ L.cd p < L.n ∧ L.plc (L.cx p) (L.cy p) (L.cc p) + L.cd p = p := by
  obtain ⟨r1, r2, r3⟩ := L.row_str h
  have hn : 0 < L.n := by rcases L.n_cases h with ⟨e, _⟩ | ⟨e, _⟩ <;> omega
  have hs : 0 < L.str := by omega
  have hH : 0 < L.H := by have := h.h1; omega
  have hC : 0 < L.C := by have := h.c1; omega
  have e1 := Int.mul_ediv_add_emod p L.str
  have e2 := Int.mul_ediv_add_emod (p % L.str) L.n
  have k0 := Int.emod_nonneg p (by omega : L.str ≠ 0)
  have d0 := Int.emod_nonneg (p % L.str) (by omega : L.n ≠ 0)
  have d1 := Int.emod_lt_of_pos (p % L.str) hn
  have r0 : 0 ≤ p / L.str := Int.ediv_nonneg p0 (by omega)
  have s0 : 0 ≤ p % L.str / L.n := Int.ediv_nonneg k0 (by omega)
  have rr : p / L.str < L.rows := Int.ediv_lt_of_lt_mul hs p1
  unfold pad at hp
  have hr := L.row_eq h
  rw [L.plc_eq h]
  unfold dom
  unfold rows rowsS at rr
  unfold cx cy cc cd
  by_cases hpl : L.pl = true
  · simp only [hpl, if_true] at hr rr ⊢
    have e3 := Int.mul_ediv_add_emod (p / L.str) L.H
    have y0 := Int.emod_nonneg (p / L.str) (by omega : L.H ≠ 0)
    have y1 := Int.emod_lt_of_pos (p / L.str) hH
    have c0 : 0 ≤ p / L.str / L.H := Int.ediv_nonneg r0 (by omega)
    have c1 : p / L.str / L.H < L.C := Int.ediv_lt_of_lt_mul hH (by rw [Int.mul_comm]; exact rr)
    have x1 : p % L.str / L.n < L.W := Int.ediv_lt_of_lt_mul hn (by omega)
    refine ⟨⟨⟨s0, x1⟩, ⟨y0, y1⟩, ⟨c0, c1⟩⟩, d0, d1, ?_⟩
    rw [Int.mul_comm (p / L.str / L.H), e3, Int.mul_comm (p / L.str), Int.mul_comm (p % L.str / L.n), Int.add_assoc, e2, e1]
  · simp only [hpl, if_false, Bool.false_eq_true] at hr rr ⊢
    have e3 := Int.mul_ediv_add_emod (p % L.str / L.n) L.C
    have c0 := Int.emod_nonneg (p % L.str / L.n) (by omega : L.C ≠ 0)
    have c1 := Int.emod_lt_of_pos (p % L.str / L.n) hC
    have x0 : 0 ≤ p % L.str / L.n / L.C := Int.ediv_nonneg s0 (by omega)
    have x1 : p % L.str / L.n / L.C < L.W := Int.ediv_lt_of_lt_mul hC (Int.ediv_lt_of_lt_mul hn (by omega))
    refine ⟨⟨⟨x0, x1⟩, ⟨r0, rr⟩, ⟨c0, c1⟩⟩, d0, d1, ?_⟩
    rw [Int.mul_comm (p % L.str / L.n / L.C), e3, Int.mul_comm (p / L.str), Int.mul_comm (p % L.str / L.n), Int.add_assoc, e2, e1]

/-- one sample changed -/
def upd (f : Int → Int → Int → Int) (x y c v : Int) : Int → Int → Int → Int := fun i j k => if i = x ∧ j = y ∧ k = c then v else f i j k

theorem octF_here (h : L.ok) {x y c d : Int} (hd : L.dom x y c) (d0 : 0 ≤ d) (dn : d < L.n) (f : Int → Int → Int → Int) :
    L.octF f (L.plc x y c + d) = L.byt d (f x y c) := by
  obtain ⟨_, _, h3, h4, h5, h6, h7⟩ := L.coords h hd d0 dn
  unfold octF
  rw [if_neg h3, h4, h5, h6, h7]

theorem octF_upd (h : L.ok) {x y c v : Int} (hd : L.dom x y c) (f : Int → Int → Int → Int) {p : Int} (p0 : 0 ≤ p) (p1 : p < L.len) :
    L.octF (upd f x y c v) p = if 0 ≤ p - L.plc x y c ∧ p - L.plc x y c < L.n then L.byt (p - L.plc x y c) v else L.octF f p := by
  split
  · rename_i hh
    have := L.octF_here h hd hh.1 hh.2 (upd f x y c v)
    rw [show L.plc x y c + (p - L.plc x y c) = p by omega] at this
    rw [this]
    simp [upd]
  · rename_i hh
    unfold octF
    split
    · rfl
    · rename_i hpad
      obtain ⟨hd', e0, en, ep⟩ := L.back h p0 p1 hpad
      have : ¬ (L.cx p = x ∧ L.cy p = y ∧ L.cc p = c) := by
        rintro ⟨rfl, rfl, rfl⟩
        apply hh
        constructor <;> omega
      unfold upd
      rw [if_neg this]

theorem byt_range (d v : Int) : 0 ≤ L.byt d v ∧ L.byt d v < 256 := by
  unfold byt; split <;> omega

theorem octF_range (f : Int → Int → Int → Int) (p : Int) : 0 ≤ L.octF f p ∧ L.octF f p < 256 := by
  unfold octF; split
  · omega
  · exact L.byt_range _ _

/-- functions that agree on the image give the same octets -/
theorem octF_congr (h : L.ok) {f g : Int → Int → Int → Int} (hfg : ∀ x y c, L.dom x y c → f x y c = g x y c) {p : Int} (p0 : 0 ≤ p) (p1 : p < L.len) : L.octF f p = L.octF g p := by
  unfold octF
  split
  · rfl
  · rename_i hpad
    rw [hfg _ _ _ (L.back h p0 p1 hpad).1]

/-- reading a sample -/
def smp (o : Int → Int) (x y c : Int) : Int := if L.B = 8 then o (L.plc x y c) else 256 * o (L.plc x y c) + o (L.plc x y c + 1)

theorem smp_octF (h : L.ok) {x y c : Int} (hd : L.dom x y c) (f : Int → Int → Int → Int) (v0 : 0 ≤ f x y c) (v1 : f x y c < if L.B = 8 then 256 else 65536) : L.smp (L.octF f) x y c = f x y c := by
  unfold smp
  rcases L.n_cases h with ⟨hn, hB⟩ | ⟨hn, hB⟩
  · have := L.octF_here h hd (d := 0) (by omega) (by omega) f
    rw [Int.add_zero] at this
    rw [if_pos hB, this]
    rw [if_pos hB] at v1
    unfold byt
    rw [if_neg (by omega)]; omega
  · have e0 := L.octF_here h hd (d := 0) (by omega) (by omega) f
    have e1 := L.octF_here h hd (d := 1) (by omega) (by omega) f
    rw [Int.add_zero] at e0
    rw [if_neg (by omega), e0, e1]
    rw [if_neg (by omega)] at v1
    unfold byt
    rw [if_pos ⟨hn, rfl⟩, if_neg (by omega)]; omega

theorem smp_bd (h : L.ok) (o : Int → Int) (ho : ∀ p, 0 ≤ o p ∧ o p < 256) (x y c : Int) : 0 ≤ L.smp o x y c ∧ L.smp o x y c < if L.B = 8 then 256 else 65536 := by
  unfold smp
  have h1 := ho (L.plc x y c)
  have h2 := ho (L.plc x y c + 1)
  rcases L.n_cases h with ⟨hn, hB⟩ | ⟨hn, hB⟩
  · rw [if_pos hB, if_pos hB]; omega
  · rw [if_neg (by omega), if_neg (by omega)]; omega

/-- octets with zeros in the padding are the octets of their samples -/
theorem octF_smp (h : L.ok) (o : Int → Int) (ho : ∀ p, 0 ≤ o p ∧ o p < 256) (hz : ∀ p, 0 ≤ p → p < L.len → L.pad p → o p = 0) {p : Int} (p0 : 0 ≤ p) (p1 : p < L.len) : L.octF (L.smp o) p = o p := by
  unfold octF
  split
  · rename_i hp; exact (hz p p0 p1 hp).symm
  · rename_i hp
    obtain ⟨hd, d0, dn, e⟩ := L.back h p0 p1 hp
    generalize L.cx p = x at *
    generalize L.cy p = y at *
    generalize L.cc p = c at *
    generalize L.cd p = d at *
    have h1 := ho (L.plc x y c)
    have h2 := ho (L.plc x y c + 1)
    unfold smp byt
    rcases L.n_cases h with ⟨hn, hB⟩ | ⟨hn, hB⟩
    · have : d = 0 := by omega
      subst this
      rw [if_neg (by omega), if_pos hB, ← e, Int.add_zero]; omega
    · have : d = 0 ∨ d = 1 := by omega
      rw [if_neg (by omega : ¬ L.B = 8)]
      rcases this with rfl | rfl
      · rw [if_pos ⟨hn, rfl⟩, ← e, Int.add_zero]; omega
      · rw [if_neg (by omega), ← e]; omega

theorem rows_bd (h : L.ok) : 1 ≤ L.rows ∧ L.rows ≤ 256 := by
  unfold rows rowsS
  have h1 := h.h1; have h2 := h.h2; have c1 := h.c1; have c2 := h.c2
  split
  · constructor
    · have := Int.mul_le_mul (a := 1) (b := 1) h1 c1 (by omega) (by omega); omega
    · have := Int.mul_le_mul h2 c2 (by omega) (by omega); omega
  · omega

theorem len_bd (h : L.ok) : 1 ≤ L.len ∧ L.len ≤ 133120 := by
  obtain ⟨r1, r2, r3⟩ := L.row_str h
  have hr := L.rows_bd h
  unfold len
  constructor
  · have := Int.mul_le_mul (a := 1) (b := 1) hr.1 (show 1 ≤ L.str by omega) (by omega) (by omega); omega
  · have := Int.mul_le_mul hr.2 r3 (by omega) (by omega); omega

end Lay
end Go.Proofs.Ytphfbjeaklpddaa
