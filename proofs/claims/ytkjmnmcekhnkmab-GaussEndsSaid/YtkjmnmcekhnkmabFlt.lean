/- Whole numbers below 2^53 in magnitude as float64 words: sums, differences, products and the way back are exact. -/
import Derived.Laws.FloatArith
namespace Go.Proofs.Ytkjmnmcekhnkmab
open Ieee

/-- The word b of a float64 stands for the whole number n. -/
def Rep (b : Nat) (n : Int) : Prop :=
  ∃ s m e, Ieee.double.read b = .number s m e ∧ e ≤ 0 ∧ Ieee.signed s m 0 = n * 2 ^ (-e).toNat

theorem signed_up (s : Bool) (m up : Nat) : signed s m up = signed s m 0 * 2 ^ up := by
  unfold signed
  cases s <;> simp [Nat.shiftLeft_eq, Int.neg_mul]

theorem signed_natAbs (s : Bool) (m : Nat) : (signed s m 0).natAbs = m := by
  unfold signed
  cases s <;> simp

theorem signed_mul (s t : Bool) (m n : Nat) : signed (s ^^ t) (m * n) 0 = signed s m 0 * signed t n 0 := by
  unfold signed
  cases s <;> cases t <;> simp [Int.neg_mul, Int.mul_neg]

theorem signed_not (s : Bool) (m : Nat) : signed (!s) m 0 = - signed s m 0 := by
  unfold signed
  cases s <;> simp

theorem pow_split (a b : Nat) (h : a ≤ b) : (2 : Nat) ^ b = 2 ^ a * 2 ^ (b - a) := by
  rw [← Nat.pow_add]; congr 1; omega

theorem double_numbers : Ieee.double.fractionBits = 52 ∧ Ieee.double.leastPlace = -1074 ∧ Ieee.double.binade = 2 ^ 52 ∧
    Ieee.double.infRung = 2047 * 2 ^ 52 ∧ Ieee.double.signWeight = 2 ^ 63 := by decide

/-- A cut that leaves nothing over. -/
theorem cut_exact (way : Toward) (neg : Bool) (k drop : Nat) : way.cut neg (k * 2 ^ drop) drop = k := by
  unfold Toward.cut
  by_cases h0 : k = 0
  · subst h0
    simp
    cases way <;> simp
  · have hp : 0 < 2 ^ drop := Nat.two_pow_pos _
    have hk : 0 < k * 2 ^ drop := Nat.mul_pos (by omega) hp
    have hlog : drop ≤ (k * 2 ^ drop).log2 := (Nat.le_log2 (by omega)).2 (Nat.le_mul_of_pos_left _ (by omega))
    have hmin : min drop ((k * 2 ^ drop).log2 + 2) = drop := by omega
    rw [hmin, Nat.one_shiftLeft]
    dsimp only
    rw [Nat.mul_div_cancel _ hp, Nat.mul_mod_left]
    cases way <;> simp

theorem read_word (s : Bool) (rung : Nat) (h : rung < 2 ^ 63) (hlo : 2 ^ 52 ≤ rung) (hhi : rung < 2047 * 2 ^ 52) :
    Ieee.double.read (Ieee.double.word s rung) = .number s (2 ^ 52 + rung % 2 ^ 52) (-1074 + ((rung / 2 ^ 52 - 1 : Nat) : Int)) := by
  obtain ⟨-, h2, h3, h4, h5⟩ := double_numbers
  have hq : Ieee.double.word s rung / 2 ^ 63 % 2 = (if s then 1 else 0) := by
    unfold Format.word; rw [h5]
    cases s <;> simp <;> omega
  have hr : Ieee.double.word s rung % 2 ^ 63 = rung := by
    unfold Format.word; rw [h5]
    cases s <;> simp <;> omega
  unfold Format.read
  simp only [h2, h3, h4, h5, hq, hr]
  rw [if_neg (by omega), if_pos hhi]
  cases s <;> rfl

theorem read_zero (s : Bool) : Ieee.double.read (Ieee.double.word s 0) = .number s 0 (-1074) := by
  cases s <;> decide

theorem rung_arith (L K : Nat) (hL : L ≤ 52) (h1 : 2 ^ 52 ≤ K) (h2 : K < 2 ^ 53) :
    min ((L + 1022) * 2 ^ 52 + K) (2047 * 2 ^ 52) = (L + 1022) * 2 ^ 52 + K ∧ ((L + 1022) * 2 ^ 52 + K) % 2 ^ 52 = K - 2 ^ 52 ∧
    ((L + 1022) * 2 ^ 52 + K) / 2 ^ 52 = L + 1023 ∧ (L + 1022) * 2 ^ 52 + K < 2 ^ 63 ∧ 2 ^ 52 ≤ (L + 1022) * 2 ^ 52 + K ∧
    (L + 1022) * 2 ^ 52 + K < 2047 * 2 ^ 52 := by
  have e63 : (2 : Nat) ^ 63 = 2048 * 2 ^ 52 := by rw [show 63 = 11 + 52 from rfl, Nat.pow_add]
  have e53 : (2 : Nat) ^ 53 = 2 * 2 ^ 52 := by rw [show 53 = 1 + 52 from rfl, Nat.pow_add]
  rw [e63]; rw [e53] at h2
  have hpos : 0 < 2 ^ 52 := Nat.two_pow_pos _
  generalize 2 ^ 52 = B at *
  obtain ⟨r, rfl⟩ : ∃ r, K = B + r := ⟨K - B, by omega⟩
  have hr : r < B := by omega
  have e : (L + 1022) * B + (B + r) = r + B * (L + 1023) := by
    rw [Nat.mul_comm B, show L + 1023 = (L + 1022) + 1 by omega, Nat.add_mul (L + 1022) 1 B]; omega
  have hle : (L + 1023) * B ≤ 1075 * B := Nat.mul_le_mul_right _ (by omega)
  have hge : 1 * B ≤ (L + 1023) * B := Nat.mul_le_mul_right _ (by omega)
  rw [Nat.mul_comm B] at e
  rw [e]
  refine ⟨Nat.min_eq_left (by omega), ?_, ?_, by omega, by omega, by omega⟩
  · rw [Nat.add_mul_mod_self_right, Nat.mod_eq_of_lt hr]; omega
  · rw [Nat.add_mul_div_right _ _ hpos, Nat.div_eq_of_lt hr, Nat.zero_add]

theorem place_arith (L : Nat) : (-1074 : Int) + ((L + 1023 - 1 : Nat) : Int) = (L : Int) - 52 := by omega

/-- Written exactly: a number with a whole value below 2^53. -/
theorem write_rep {s : Bool} {m : Nat} {e : Int} {n : Int} (he : e ≤ 0) (hv : signed s m 0 = n * 2 ^ (-e).toNat) (hn : n.natAbs < 2 ^ 53) :
    Rep (Ieee.double.write (.number s m e)) n := by
  obtain ⟨d, rfl⟩ : ∃ d : Nat, e = -(d : Int) := ⟨(-e).toNat, by omega⟩
  have hd : (- -(d : Int)).toNat = d := by omega
  rw [hd] at hv
  have hm : m = n.natAbs * 2 ^ d := by
    have := congrArg Int.natAbs hv
    rw [signed_natAbs, Int.natAbs_mul, Int.natAbs_pow] at this
    exact this
  obtain ⟨h1, h2, h3, h4, h5⟩ := double_numbers
  show Rep (Ieee.double.nearest s m (-(d : Int))) n
  unfold Format.nearest
  by_cases h0 : m = 0
  · rw [if_pos h0]
    refine ⟨s, 0, -1074, read_zero s, by omega, ?_⟩
    have : n = 0 := by
      have hp : 0 < 2 ^ d := Nat.two_pow_pos _
      rw [h0] at hm
      have : n.natAbs = 0 := by
        rcases Nat.eq_zero_or_pos n.natAbs with h | h
        · exact h
        · have := Nat.mul_pos h hp; omega
      omega
    subst this
    rw [Int.zero_mul]
    cases s <;> rfl
  · rw [if_neg h0]
    have hN0 : n.natAbs ≠ 0 := by intro h; rw [h] at hm; simp at hm; exact h0 hm
    have hlog : m.log2 = n.natAbs.log2 + d := by
      rw [hm]
      refine (Nat.log2_eq_iff (by rw [← hm]; exact h0)).2 ⟨?_, ?_⟩
      · rw [Nat.pow_add]; exact Nat.mul_le_mul_right _ (Nat.log2_self_le hN0)
      · rw [show n.natAbs.log2 + d + 1 = (n.natAbs.log2 + 1) + d by omega, Nat.pow_add]
        exact Nat.mul_lt_mul_of_pos_right Nat.lt_log2_self (Nat.two_pow_pos _)
    have hL : n.natAbs.log2 ≤ 52 := by
      have := (Nat.log2_lt hN0).2 hn; omega
    obtain ⟨L, hLdef⟩ : ∃ L, L = n.natAbs.log2 := ⟨_, rfl⟩
    rw [← hLdef] at hlog hL
    have hlast : max (-(d : Int) + m.log2 - Ieee.double.fractionBits) Ieee.double.leastPlace = (L : Int) - 52 := by
      rw [hlog, h1, h2]; omega
    dsimp only
    rw [hlast, h2, h3, h4]
    have hkept : Toward.even.cut s (m <<< (-(d : Int) - ((L : Int) - 52)).toNat) ((L : Int) - 52 - -(d : Int)).toNat = n.natAbs * 2 ^ (52 - L) := by
      rw [Nat.shiftLeft_eq]
      by_cases hc : d ≤ 52 - L
      · have ha : (-(d : Int) - ((L : Int) - 52)).toNat = 52 - L - d := by omega
        have hb : ((L : Int) - 52 - -(d : Int)).toNat = 0 := by omega
        rw [ha, hb, hm, Nat.mul_assoc, ← Nat.pow_add, show d + (52 - L - d) = 52 - L by omega]
        have := cut_exact .even s (n.natAbs * 2 ^ (52 - L)) 0
        simpa using this
      · have ha : (-(d : Int) - ((L : Int) - 52)).toNat = 0 := by omega
        have hb : ((L : Int) - 52 - -(d : Int)).toNat = d - (52 - L) := by omega
        rw [ha, hb, hm, Nat.pow_zero, Nat.mul_one, pow_split (52 - L) d (by omega), ← Nat.mul_assoc]
        exact cut_exact .even s _ _
    rw [hkept]
    have hK1 : 2 ^ 52 ≤ n.natAbs * 2 ^ (52 - L) := by
      have := Nat.log2_self_le hN0
      rw [← hLdef] at this
      calc 2 ^ 52 = 2 ^ L * 2 ^ (52 - L) := pow_split L 52 hL
        _ ≤ _ := Nat.mul_le_mul_right _ this
    have hK2 : n.natAbs * 2 ^ (52 - L) < 2 ^ 53 := by
      have := @Nat.lt_log2_self n.natAbs
      rw [← hLdef] at this
      calc n.natAbs * 2 ^ (52 - L) < 2 ^ (L + 1) * 2 ^ (52 - L) := Nat.mul_lt_mul_of_pos_right this (Nat.two_pow_pos _)
        _ = 2 ^ 53 := by rw [← Nat.pow_add]; congr 1; omega
    have hup : ((L : Int) - 52 - -1074).toNat = L + 1022 := by omega
    rw [hup]
    generalize hK : n.natAbs * 2 ^ (52 - L) = K at hK1 hK2
    obtain ⟨hmin, hmod, hdiv, hr1, hr2, hr3⟩ := rung_arith L K hL hK1 hK2
    rw [hmin]
    refine ⟨s, K, (L : Int) - 52, ?_, by omega, ?_⟩
    · rw [read_word s _ hr1 hr2 hr3, hmod, hdiv, Nat.add_sub_cancel' hK1, place_arith]
    · have hz : (-((L : Int) - 52)).toNat = 52 - L := by omega
      rw [hz]
      have hp : (0 : Int) < 2 ^ d := Int.pow_pos (by omega)
      cases s
      · have hn0 : 0 ≤ n := by
          simp [signed] at hv
          rcases Int.lt_or_le n 0 with h | h
          · have := Int.mul_neg_of_neg_of_pos h hp; omega
          · exact h
        simp only [signed, Nat.shiftLeft_zero, if_false, Bool.false_eq_true]
        rw [← hK]
        push_cast
        rw [Int.natAbs_of_nonneg hn0]
      · have hn0 : n ≤ 0 := by
          simp [signed] at hv
          rcases Int.lt_or_le 0 n with h | h
          · have := Int.mul_pos h hp; omega
          · exact h
        simp only [signed, Nat.shiftLeft_zero, if_true]
        rw [← hK]
        push_cast
        rw [← Int.neg_mul, Int.ofNat_natAbs_of_nonpos hn0, Int.neg_neg]

theorem Rep.opposite {s : Bool} {m : Nat} {e n : Int} (hv : signed s m 0 = n * 2 ^ (-e).toNat) :
    signed (!s) m 0 = (-n) * 2 ^ (-e).toNat := by rw [signed_not, hv, Int.neg_mul]

theorem sum_number (s t : Bool) (m n : Nat) (i j a b : Int) (hi : i ≤ 0) (hj : j ≤ 0) (hx : signed s m 0 = a * 2 ^ (-i).toNat)
    (hy : signed t n 0 = b * 2 ^ (-j).toNat) :
    ∃ u k e, (Datum.number s m i).sum (.number t n j) = some (.number u k e) ∧ e ≤ 0 ∧ signed u k 0 = (a + b) * 2 ^ (-e).toNat := by
  have key : signed s m (i - min i j).toNat + signed t n (j - min i j).toNat = (a + b) * 2 ^ (-(min i j)).toNat := by
    rw [signed_up s, signed_up t, hx, hy, Int.mul_assoc, Int.mul_assoc, ← Int.pow_add, ← Int.pow_add, Int.add_mul]
    congr 3 <;> omega
  refine ⟨_, _, _, rfl, by omega, ?_⟩
  rw [key]
  generalize (a + b) * 2 ^ (-(min i j)).toNat = T
  by_cases h0 : T = 0
  · subst h0; simp [signed]
  · rw [if_neg h0]
    by_cases h1 : T < 0
    · simp [signed, h1]; omega
    · simp [signed, h1]; omega

theorem rep_add {x y : Nat} {a b : Int} (hx : Rep x a) (hy : Rep y b) (h : (a + b).natAbs < 2 ^ 53) :
    ∃ r, Ieee.double.add x y = some r ∧ Rep r (a + b) := by
  obtain ⟨s, m, i, h1, h2, h3⟩ := hx
  obtain ⟨t, n, j, g1, g2, g3⟩ := hy
  obtain ⟨u, k, e, e1, e2, e3⟩ := sum_number s t m n i j a b h2 g2 h3 g3
  exact ⟨_, by unfold Format.add; rw [h1, g1, e1]; rfl, write_rep e2 e3 h⟩

theorem rep_sub {x y : Nat} {a b : Int} (hx : Rep x a) (hy : Rep y b) (h : (a - b).natAbs < 2 ^ 53) :
    ∃ r, Ieee.double.sub x y = some r ∧ Rep r (a - b) := by
  obtain ⟨s, m, i, h1, h2, h3⟩ := hx
  obtain ⟨t, n, j, g1, g2, g3⟩ := hy
  obtain ⟨u, k, e, e1, e2, e3⟩ := sum_number s (!t) m n i j a (-b) h2 g2 h3 (Rep.opposite g3)
  rw [← Int.sub_eq_add_neg] at e3
  exact ⟨_, by unfold Format.sub; rw [h1, g1]; simp only [Datum.opposite]; rw [e1]; rfl, write_rep e2 e3 h⟩

theorem rep_mul {x y : Nat} {a b : Int} (hx : Rep x a) (hy : Rep y b) (h : (a * b).natAbs < 2 ^ 53) :
    ∃ r, Ieee.double.mul x y = some r ∧ Rep r (a * b) := by
  obtain ⟨s, m, i, h1, h2, h3⟩ := hx
  obtain ⟨t, n, j, g1, g2, g3⟩ := hy
  refine ⟨_, by unfold Format.mul; rw [h1, g1]; rfl, write_rep (by omega) ?_ h⟩
  rw [signed_mul, h3, g3]
  have : (-(i + j)).toNat = (-i).toNat + (-j).toNat := by omega
  rw [this, Int.pow_add]
  simp only [Int.mul_assoc, Int.mul_left_comm]

theorem rep_int (n : Int) (h : n.natAbs < 2 ^ 53) : Rep (floatOfInt .f64 n) n := by
  refine write_rep (e := 0) (by omega) ?_ h
  unfold signed
  by_cases h1 : n < 0
  · simp [h1]; omega
  · simp [h1]; omega

theorem rep_toInt {x : Nat} {n : Int} (hx : Rep x n) : (FloatKind.f64.decode x).toInt .zero = some n := by
  obtain ⟨s, m, i, h1, h2, h3⟩ := hx
  have hm : m = n.natAbs * 2 ^ (-i).toNat := by
    have := congrArg Int.natAbs h3
    rw [signed_natAbs, Int.natAbs_mul, Int.natAbs_pow] at this
    exact this
  have hi : i.toNat = 0 := by omega
  show (Ieee.double.read x).toInt .zero = some n
  rw [h1]
  unfold Datum.toInt Datum.integral
  simp only [hi, Nat.shiftLeft_zero]
  conv => lhs; rw [hm]
  rw [cut_exact]
  have hp : (0 : Int) < 2 ^ (-i).toNat := Int.pow_pos (by omega)
  cases s
  · have : 0 ≤ n := by
      simp [signed] at h3
      rcases Int.lt_or_le n 0 with h | h
      · have := Int.mul_neg_of_neg_of_pos h hp; omega
      · exact h
    simp [signed]; omega
  · have : n ≤ 0 := by
      simp [signed] at h3
      rcases Int.lt_or_le 0 n with h | h
      · have := Int.mul_pos h hp; omega
      · exact h
    simp [signed]; omega

end Go.Proofs.Ytkjmnmcekhnkmab
