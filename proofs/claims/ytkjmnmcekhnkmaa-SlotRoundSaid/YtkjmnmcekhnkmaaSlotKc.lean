/- Swapped in one behind the other, each slot is open for its index ahead of that, and decided from then on till the one L above: as functions of numbers alone, within the statement's own bounds. -/
import Derived.Test.YtkjmnmcekhnkmaaSlotKb
import Derived.OpenShut
namespace Go.Proofs.Ytkjmnmcekhnkmaa.Pure
open Go.RowKit Go.Proofs.Ytkjmnmcekhnkmaa.PSlotRound Go.Proofs.YtkjmnmcekhnkmaaW.PrintWords Go.Proofs.YtkjmnmcekhnkmaaW.PrintLast Go.Proofs.YtkjmnmcekhnkmaaW.PrintMore

theorem round_wrap {a : Int} (h0 : -9223372036854775808 ≤ a) (h : a ≤ 9223372036854775807) : wrap64 a = a := by
  unfold wrap64
  omega

theorem round_place (i l : Int) (h0 : 1 ≤ i) (h1 : i ≤ 9223372036854775807) (h2 : 1 ≤ l) : slot_Place.f i l = some ((i - 1) % l) := by
  unfold slot_Place.f
  rw [if_neg (by omega), if_neg (by omega), if_neg (by omega), round_wrap (by omega) (by omega), Int.tmod_eq_emod_of_nonneg (by omega)]

/-- Two numbers with one remainder that are closer than the modulus are one. -/
theorem round_one {x y l : Int} (hl : 1 ≤ l) (h : x % l = y % l) (h1 : x - y < l) (h2 : y - x < l) : x = y := by
  have hx := Int.mul_ediv_add_emod x l
  have hy := Int.mul_ediv_add_emod y l
  have hd : l * (x / l - y / l) = x - y := by rw [Int.mul_sub]; omega
  rcases Int.lt_trichotomy (x / l - y / l) 0 with hq | hq | hq
  · have : l * (x / l - y / l) ≤ l * (-1) := Int.mul_le_mul_of_nonneg_left (by omega) (by omega)
    omega
  · rw [hq] at hd; omega
  · have : l * 1 ≤ l * (x / l - y / l) := Int.mul_le_mul_of_nonneg_left (by omega) (by omega)
    omega

theorem round_emod_le {x l : Int} (hx : 0 ≤ x) (hl : 1 ≤ l) : x % l ≤ x := by
  have h := Int.mul_ediv_add_emod x l
  have : 0 ≤ x / l := Int.ediv_nonneg hx (by omega)
  have : 0 ≤ l * (x / l) := Int.mul_nonneg (by omega) this
  omega

/-- What a slot is for an index, as a plain function. -/
def isV (s i l : Int) : Int := if s > i then 3 else if s = i then 2 else if s = mx (i - l) 0 then 1 else 0

theorem round_is (s i l a b c d : Int) (xs : List S91) (ys : List Int) (h0 : 1 ≤ i) (h1 : i ≤ 100000) (h2 : 1 ≤ l) (h3 : l ≤ 60) :
    slot_Is.f s a b c d xs ys i l = some (isV s i l) := by
  unfold slot_Is.f isV
  rw [round_place i l h0 (by omega) h2]
  have hm := Int.emod_nonneg (i - 1) (show l ≠ 0 by omega)
  simp only [Option.bind_some]
  rw [if_neg (by omega), round_wrap (show -9223372036854775808 ≤ i - l by omega) (by omega)]
  repeat (split; · rfl)
  rfl

/-- The arena behind the swaps of the indices 1 to m. -/
def Inv (l m : Int) (arena : List S33) : Prop :=
  (arena.length : Int) = l ∧ ∀ a, 0 ≤ a → a < l → ((rd_T33 arena a).f0 = 0 ∧ m ≤ a) ∨
    (1 ≤ (rd_T33 arena a).f0 ∧ ((rd_T33 arena a).f0 - 1) % l = a ∧ m - l < (rd_T33 arena a).f0 ∧ (rd_T33 arena a).f0 ≤ m)

theorem mx_pos {a : Int} (h : 0 ≤ a) : mx a 0 = a := by unfold mx; rw [if_neg (by omega)]
theorem mx_neg {a : Int} (h : a ≤ 0) : mx a 0 = 0 := by unfold mx; split <;> omega

theorem inv_is {l m k : Int} {arena : List S33} (hl : 1 ≤ l) (hI : Inv l m arena) (hk : 1 ≤ k) (hk1 : k ≤ m + l + 1) (hm : 0 ≤ m) :
    isV (rd_T33 arena ((k - 1) % l)).f0 k l = if k ≤ m - l then 3 else if k ≤ m then 2 else if k ≤ m + l then 1 else 0 := by
  have p0 := Int.emod_nonneg (k - 1) (show l ≠ 0 by omega)
  have p1 := Int.emod_lt_of_pos (k - 1) (show 0 < l by omega)
  have hle := round_emod_le (x := k - 1) (l := l) (by omega) hl
  have hI' := hI.2 _ p0 p1
  generalize (rd_T33 arena ((k - 1) % l)).f0 = v at *
  unfold isV
  rcases hI' with ⟨hv, hma⟩ | ⟨hv, hva, hv1, hv2⟩
  · subst hv
    rw [if_neg (by omega), if_neg (by omega), if_neg (show ¬ k ≤ m - l by omega), if_neg (show ¬ k ≤ m by omega)]
    by_cases hkl : k ≤ l
    · rw [mx_neg (by omega), if_pos rfl, if_pos (by omega)]
    · have e : (k - 1) % l = (k - 1 - l) % l := by rw [Int.sub_emod_right]
      have := round_emod_le (x := k - 1 - l) (l := l) (by omega) hl
      rw [mx_pos (by omega), if_neg (by omega), if_neg (by omega)]
  · by_cases c1 : k ≤ m - l
    · rw [if_pos (by omega), if_pos c1]
    · rw [if_neg c1]
      by_cases c2 : k ≤ m
      · have : v - 1 = k - 1 := round_one hl hva (by omega) (by omega)
        rw [if_neg (by omega), if_pos (by omega), if_pos c2]
      · rw [if_neg (by omega), if_neg (by omega), if_neg c2]
        by_cases c3 : k ≤ m + l
        · have e : (k - 1) % l = (k - 1 - l) % l := by rw [Int.sub_emod_right]
          have : v - 1 = k - 1 - l := round_one hl (by rw [hva, e]) (by omega) (by omega)
          rw [if_pos c3, mx_pos (by omega), if_pos (by omega)]
        · rw [if_neg c3, mx_pos (by omega), if_neg (by omega)]

theorem rd_set (arena : List S33) (a b : Int) (s : S33) (ha : 0 ≤ a) (ha1 : a < arena.length) (hb : 0 ≤ b) :
    rd_T33 (arena.set a.toNat s) b = if a = b then s else rd_T33 arena b := by
  unfold rd_T33
  rw [List.getD_eq_getElem?_getD, List.getD_eq_getElem?_getD, List.getElem?_set]
  by_cases e : a = b
  · rw [if_pos (by omega), if_pos (by omega), if_pos e]; rfl
  · rw [if_neg (by omega), if_neg e]

theorem inv_step {l i : Int} {arena : List S33} {s : S33} (hl : 1 ≤ l) (hi : 1 ≤ i) (hI : Inv l (i - 1) arena) (hs : s.f0 = i) :
    Inv l i (arena.set ((i - 1) % l).toNat s) := by
  have p0 := Int.emod_nonneg (i - 1) (show l ≠ 0 by omega)
  have p1 := Int.emod_lt_of_pos (i - 1) (show 0 < l by omega)
  refine ⟨by rw [List.length_set]; exact hI.1, ?_⟩
  intro a a0 a1
  rw [rd_set arena _ a s p0 (by rw [hI.1]; exact p1) a0]
  by_cases e : (i - 1) % l = a
  · rw [if_pos e, hs]
    exact .inr ⟨hi, e, by omega, by omega⟩
  · rw [if_neg e]
    rcases hI.2 a a0 a1 with ⟨hv, hm⟩ | ⟨hv, hva, hv1, hv2⟩
    · refine .inl ⟨hv, ?_⟩
      rcases Int.lt_or_le a i with h | h
      · exfalso
        have : a = i - 1 := by omega
        subst this
        exact e (Int.emod_eq_of_lt a0 a1)
      · exact h
    · refine .inr ⟨hv, hva, ?_, by omega⟩
      generalize (rd_T33 arena a).f0 = v at *
      rcases Int.lt_or_le (i - l) v with h | h
      · exact h
      · exfalso
        have : v = i - l := by omega
        subst this
        rw [show i - l - 1 = i - 1 - l by omega, Int.sub_emod_right] at hva
        exact e hva

theorem inv_told {l m k : Int} {arena : List S33} (hl : 1 ≤ l) (hl1 : l ≤ 60) (hI : Inv l m arena) (hk : 1 ≤ k) (hk1 : k ≤ m + l + 1) (hm : 0 ≤ m) (hm1 : m ≤ 1000) :
    capstanlaw23_told.f arena k = some (if k ≤ m - l then 3 else if k ≤ m then 2 else if k ≤ m + l then 1 else 0, true) := by
  have p0 := Int.emod_nonneg (k - 1) (show l ≠ 0 by omega)
  have p1 := Int.emod_lt_of_pos (k - 1) (show 0 < l by omega)
  unfold capstanlaw23_told.f
  rw [hI.1, round_place k l hk (by omega) hl]
  simp only [Option.bind_some]
  rw [if_neg (by omega), if_neg (by omega), if_pos p0, if_pos p1, round_is _ k l _ _ _ _ _ _ hk (by omega) hl hl1]
  simp only [Option.bind_some]
  rw [inv_is hl hI hk hk1 hm]

theorem loop2 (l n i : Int) (arena : List S33) (hl : 1 ≤ l) (hl1 : l ≤ 60) (hi : 1 ≤ i) (hi1 : i ≤ 300) (hI : Inv l i arena) (B : Nat)
    (hB : ∀ k, B ≤ k → capstanlaw23_SlotRound.l0 k l n arena (i + 1) = some true) (d : Nat) :
    ∀ (k : Nat) (x : Int), i + 1 ≤ x → x ≤ i + l + 2 → i + l + 2 - x = d → B + d + 1 ≤ k → capstanlaw23_SlotRound.l2 k l n arena i x = some true := by
  have hw1 : wrap64 (i + l) = i + l := round_wrap (by omega) (by omega)
  have hw2 : wrap64 (i + l + 1) = i + l + 1 := round_wrap (by omega) (by omega)
  have hw3 : wrap64 (i + 1) = i + 1 := round_wrap (by omega) (by omega)
  induction d with
  | zero =>
    intro k x h0 h1 hd hk
    obtain ⟨k, rfl⟩ : ∃ m, k = m + 1 := ⟨k - 1, by omega⟩
    simp only [capstanlaw23_SlotRound.l2, hw1, hw2, hw3]
    rw [if_neg (by omega)]
    exact hB k (by omega)
  | succ d ih =>
    intro k x h0 h1 hd hk
    obtain ⟨k, rfl⟩ : ∃ m, k = m + 1 := ⟨k - 1, by omega⟩
    have hw4 : wrap64 (x + 1) = x + 1 := round_wrap (by omega) (by omega)
    have hnext := ih k (x + 1) (by omega) (by omega) (by omega) (by omega)
    simp only [capstanlaw23_SlotRound.l2, hw1, hw2, hw4]
    rw [if_pos (by omega), inv_told hl hl1 hI (by omega) (by omega) (by omega) (by omega)]
    simp only [Option.bind_some, if_true]
    rw [if_neg (show ¬ x ≤ i - l by omega), if_neg (show ¬ x ≤ i by omega)]
    by_cases c : x ≤ i + l
    · rw [if_pos c, if_pos c, if_pos rfl, if_neg (by omega)]; exact hnext
    · rw [if_neg c, if_neg c, if_pos (by omega), if_pos rfl]; exact hnext

theorem loop1 (l n i : Int) (arena : List S33) (hl : 1 ≤ l) (hl1 : l ≤ 60) (hi : 1 ≤ i) (hi1 : i ≤ 300) (hI : Inv l i arena) (B : Nat)
    (hB : ∀ k, B ≤ k → capstanlaw23_SlotRound.l0 k l n arena (i + 1) = some true) (d : Nat) :
    ∀ (k : Nat) (x : Int), 1 ≤ x → x ≤ i + 1 → i + 1 - x = d → B + d + 100 ≤ k → capstanlaw23_SlotRound.l1 k l n arena i x = some true := by
  have hw1 : wrap64 (i - l) = i - l := round_wrap (by omega) (by omega)
  have hw3 : wrap64 (i + 1) = i + 1 := round_wrap (by omega) (by omega)
  induction d with
  | zero =>
    intro k x h0 h1 hd hk
    obtain ⟨k, rfl⟩ : ∃ m, k = m + 1 := ⟨k - 1, by omega⟩
    simp only [capstanlaw23_SlotRound.l1, hw3]
    rw [if_neg (by omega)]
    exact loop2 l n i arena hl hl1 hi hi1 hI B hB (l + 1).toNat k (i + 1) (by omega) (by omega) (by omega) (by omega)
  | succ d ih =>
    intro k x h0 h1 hd hk
    obtain ⟨k, rfl⟩ : ∃ m, k = m + 1 := ⟨k - 1, by omega⟩
    have hw4 : wrap64 (x + 1) = x + 1 := round_wrap (by omega) (by omega)
    have hnext := ih k (x + 1) (by omega) (by omega) (by omega) (by omega)
    simp only [capstanlaw23_SlotRound.l1, hw1, hw4]
    rw [if_pos (by omega), inv_told hl hl1 hI (by omega) (by omega) (by omega) (by omega)]
    simp only [Option.bind_some, if_true]
    by_cases c : x ≤ i - l
    · rw [if_pos c, if_neg (by omega), if_pos c, if_pos rfl]; exact hnext
    · rw [if_neg c, if_pos (by omega), if_pos (show x ≤ i by omega), if_pos rfl, if_neg c]; exact hnext

theorem loop0 (l n : Int) (hl : 1 ≤ l) (hl1 : l ≤ 60) (hn : n ≤ 300) (d : Nat) :
    ∀ (k : Nat) (i : Int) (arena : List S33), 1 ≤ i → i ≤ n + 1 → n + 1 - i = d → 700 * d + 1 ≤ k → Inv l (i - 1) arena → capstanlaw23_SlotRound.l0 k l n arena i = some true := by
  induction d with
  | zero =>
    intro k i arena h0 h1 hd hk hI
    obtain ⟨k, rfl⟩ : ∃ m, k = m + 1 := ⟨k - 1, by omega⟩
    simp only [capstanlaw23_SlotRound.l0]
    rw [if_neg (by omega)]
  | succ d ih =>
    intro k i arena h0 h1 hd hk hI
    obtain ⟨k, rfl⟩ : ∃ m, k = m + 1 := ⟨k - 1, by omega⟩
    obtain ⟨k, rfl⟩ : ∃ m, k = m + 1 := ⟨k - 1, by omega⟩
    have p0 := Int.emod_nonneg (i - 1) (show l ≠ 0 by omega)
    have p1 := Int.emod_lt_of_pos (i - 1) (show 0 < l by omega)
    have hlen := hI.1
    simp only [capstanlaw23_SlotRound.l0, capstanlaw23_SlotRound.j2, slot_Next.f]
    rw [if_pos (by omega), round_place i l h0 (by omega) hl]
    simp only [Option.bind_some]
    rw [if_neg (by omega), if_neg (by omega), if_pos p0, if_pos (by omega), round_is _ i l _ _ _ _ _ _ h0 (by omega) hl hl1]
    simp only [Option.bind_some]
    have e := inv_is hl hI h0 (by omega) (by omega)
    rw [if_neg (show ¬ i ≤ i - 1 - l by omega), if_neg (show ¬ i ≤ i - 1 by omega), if_pos (show i ≤ i - 1 + l by omega)] at e
    rw [e, if_neg (by decide), if_pos p0, if_pos (by omega)]
    have hI2 := fun s hs => inv_step (s := s) hl h0 hI hs
    refine loop1 l n i _ hl hl1 h0 (by omega) (hI2 _ rfl) (700 * d + 1) ?_ i.toNat k 1 (by omega) (by omega) (by omega) (by omega)
    intro K hK
    exact ih K (i + 1) _ (by omega) (by omega) (by omega) hK (by rw [show i + 1 - 1 = i by omega]; exact hI2 _ rfl)

theorem round_awake : capstanlaw23_awake.f = some true := by decide +kernel

theorem SlotRound : capstanlaw23_SlotRound.Pure := by
  intro l n h0 h1
  have b0 := bounds_i64 h0
  have b1 := bounds_i64 h1
  refine ⟨700 * (n + 1).toNat + 2, ?_⟩
  unfold capstanlaw23_SlotRound.f
  rw [round_awake]
  simp only [Option.bind_some, if_true, capstanlaw23_SlotRound.j0]
  by_cases c1 : l < 1
  · rw [if_pos c1]
  rw [if_neg c1]
  by_cases c2 : l > 60
  · rw [if_pos c2]
  rw [if_neg c2]
  by_cases c3 : n < 0
  · rw [if_pos c3]
  rw [if_neg c3]
  by_cases c4 : n > 300
  · rw [if_pos (by simpa using c4)]
  rw [if_neg (by simpa using c4), if_pos (by omega), if_pos (by omega)]
  refine loop0 l n (by omega) (by omega) (by omega) n.toNat _ 1 _ (by omega) (by omega) (by omega) (by omega) ⟨by rw [List.length_replicate]; omega, ?_⟩
  intro a a0 a1
  refine .inl ⟨?_, by omega⟩
  have hz : rd_T33 (List.replicate l.toNat z33) a = z33 := by
    unfold rd_T33
    rw [List.getD_eq_getElem?_getD, List.getElem?_replicate]
    split <;> rfl
  rw [hz]
  rfl

end Go.Proofs.Ytkjmnmcekhnkmaa.Pure
