/- Parts of the walk, joined. -/
import Derived.Deep.RegionLaw
import Derived.Maps.AppendAt
import Derived.Test.YtkhgpeejmbfmjaaProg
import Derived.WalkKit
import Derived.Handy
import Derived.Deep.QuietTactic
import Derived.Laws.FloatArith
import Derived.RangeFuncNested
import Derived.RangeFuncBound
import Derived.RangeFuncCalls
import Derived.RangeFuncLeaves
import Derived.RangeFuncBox
import Derived.Shelf.Abstract
import Derived.Shelf.RegionOpen
import Derived.OwnWalkIn
import Derived.TacticsInMore
import Derived.LoopNIn
import Derived.LoopIn
import Derived.WalkLawsBesides
import Derived.KernelRfl
import Derived.Lib.Hide
import Derived.BigQuiet
import Derived.ProofKit
import Derived.OpenShut
import Derived.ShutString
import Derived.ChangeOld
import Derived.Below
import Derived.SizedLaws
import Derived.Deep.Slices
import Derived.Deep.Fields
import Derived.ChangeSame
import Derived.StillTail
import Derived.Deep.RegionHeld3
import Derived.OwnWalk
import Derived.Carry
import Derived.Maps.OwnSet
import Derived.Maps.OwnOps
import Derived.Maps.Views
import Derived.WalkSmall
import Derived.WalkSpells
import Derived.IntWalk
import Derived.Laws.StructEq
/- append onto a row that is owned, as one step of a region that draws its order: whether it fits or grows. -/
namespace Go
theorem step_append_own {P : Program} {ops : Array Oper} {o : Oper} {a : Act} {w : World} {K : Act → World → Prop} {Q : Exit → Act → World → Prop} {E : Prop}
    (hg : o.guard = none) (s x : Operand) (t : TypeId) (hop : o.op = Op.call { callee := Callee.builtin Builtin.append, args := #[s, x], argTypes := #[t, t] })
    (base : Nat) (e : TypeId) (i : TypeInfo) (z : Value) (size bytes : Nat) (ht : P.underlying t = some (.slice e)) (hi : P.info? e = some i) (hz : i.zero = some z)
    (hsize : i.size = size) (hby : i.bytes = bytes) (hzs : z.cells.size = size) (hsz : 0 < size)
    (v : Value) (n : Nat) (xs : List Value) (hs : a.eval s = v) (hown : w.ownsRow base e size v n xs)
    (ad : Addr) (m c : Nat) (news : List Value) (hx : a.eval x = .slice (some ad) m c) (hl : news.length = m * size) (hnews : ∀ j u, news[j]? = some u → w.cell? (ad.add j) = some u) (h1 : ∀ u ∈ news, u.oneCell' = true)
    (h63 : n + m ≤ maxLen) (hbytes : (n + m) * bytes ≤ 140737488355328) (hbase : base ≤ w.heap.size)
    (hK : ∀ v' w', w'.ownsRow base e size v' (n + m) (xs ++ news) → w.grownBy w' v.ownBlock → (v'.ownBlock = v.ownBlock ∨ v'.ownBlock = some w.heap.size) → K (a.put o.dst v') w') :
    if Region.wanted o (yielded ops a.tmps) = true then Oper.wp P o a w K Q else E := by
  have hw : Region.wanted o (yielded ops a.tmps) = true := by simp [Region.wanted, hg]
  rw [if_pos hw]
  obtain ⟨v', w', hr, h2, h3, h4, h5⟩ := run_append_own_at (P := P) w base t o.type e i z size bytes ht hi hz hsize hby hzs hsz v n xs hown ad m c news hl hnews h1 h63 hbytes hbase
  unfold Oper.wp execOp
  simp only [hop, resolve, invoke, builtin, Sem.run_bind, Sem.run_pure, Result.andThen_ok, List.map_toArray, List.map_cons, List.map_nil, hs, hx, hr]
  exact hK _ _ h2 h3 h5
end Go
/- A block of memory known whole: its cells as a list, none frozen; what a store, an allocation, a call do to it. -/
namespace Go.Proofs.Ytkhgpeejmbfmjaa
open Go.RowKit
set_option linter.unusedSimpArgs false
set_option linter.unusedVariables false

/-- Block b holds the values vs, and may be written. -/
structure Blk (w : World) (b : Nat) (vs : List Value) : Prop where
  c : ∀ (j : Nat) (v : Value), vs[j]? = some v → w.cell? ⟨b, j, none⟩ = some v
  f : ∀ o, w.frozen? ⟨b, o, none⟩ = false
  l : b < w.heap.size

theorem Blk.below {w w' : World} {b : Nat} {vs : List Value} (h : Blk w b vs) (hb : Below w.heap.size w w') : Blk w' b vs :=
  ⟨fun j v hj => (hb.cell (p := ⟨b, j, none⟩) h.l).trans (h.c j v hj), fun o => (hb.frozen (p := ⟨b, o, none⟩) h.l).trans (h.f o), Nat.lt_of_lt_of_le h.l hb.size⟩
theorem Blk.drewN {w : World} {b : Nat} {vs : List Value} (h : Blk w b vs) (k : Nat) : Blk (w.drewN k) b vs :=
  ⟨fun j v hj => by simpa using h.c j v hj, fun o => by simpa using h.f o, by simpa using h.l⟩
theorem Blk.drew {w : World} {b : Nat} {vs : List Value} (h : Blk w b vs) : Blk w.drew b vs := h.drewN 1
theorem Blk.set {w : World} {b : Nat} {vs : List Value} (h : Blk w b vs) {j : Nat} {u : Value} (hj : vs[j]? = some u) (v : Value) : Blk (w.setCell ⟨b, j, none⟩ v) b (vs.set j v) := by
  refine ⟨fun i x hi => ?_, fun o => by rw [World.frozen?_setCell]; exact h.f o, by simpa using h.l⟩
  by_cases e : i = j
  · subst e
    obtain ⟨hl, -⟩ := List.getElem?_eq_some_iff.1 hj
    rw [List.getElem?_set_self hl] at hi
    obtain rfl := Option.some.inj hi
    exact World.cell?_setCell_same' _ _ _ (by rw [h.c i u hj]; rfl)
  · rw [List.getElem?_set_ne (fun e' => e e'.symm)] at hi
    rw [World.cell?_setCell_other _ _ _ _ (by intro e'; injection e' with e1 e2; omega)]
    exact h.c i x hi
theorem Blk.other {w : World} {b : Nat} {vs : List Value} (h : Blk w b vs) {b' : Nat} (hne : b' ≠ b) (j : Nat) (v : Value) : Blk (w.setCell ⟨b', j, none⟩ v) b vs :=
  ⟨fun i x hi => (World.cell?_setCell_other _ _ _ _ (by intro e'; injection e' with e1; omega)).trans (h.c i x hi), fun o => by rw [World.frozen?_setCell]; exact h.f o, by simpa using h.l⟩
theorem Blk.new (w : World) (cs : Array Value) (t : TypeId) : Blk (w.alloc (.cells cs t)) w.heap.size cs.toList :=
  ⟨fun j v hj => by rw [World.cell?_alloc_new]; simpa using hj, fun o => World.frozen?_alloc_new .., by simp⟩
theorem Blk.alloc {w : World} {b : Nat} {vs : List Value} (h : Blk w b vs) (o : Obj) : Blk (w.alloc o) b vs :=
  h.below ((Below.refl _ w).alloc (Nat.le_refl _) o)
/-- A store leaves the smaller part of the heap alone. -/
theorem Blk.below_set {w W : World} {n b : Nat} (hb : Below n w W) (hn : n ≤ b) (j : Nat) (v : Value) : Below n w (W.setCell ⟨b, j, none⟩ v) := hb.setCell (by exact hn) _
theorem below_next {w W w1 : World} (h0 : Below w.heap.size w W) (hb : Below W.heap.size W w1) : Below w.heap.size w w1 := h0.trans (hb.mono h0.size)

end Go.Proofs.Ytkhgpeejmbfmjaa
/- Whole numbers below 2^53 in magnitude as float64 words: sums, differences, products and the way back are exact. -/
namespace Go.Proofs.Ytkhgpeejmbfmjaa
open Ieee

/-- The word b of a float64 stands for the whole number n. -/
def Rep (b : Nat) (n : Int) : Prop :=
  ∃ s m e, Ieee.double.read b = .number s m e ∧ e ≤ 0 ∧ Ieee.signed s m 0 = n * 2 ^ (-e).toNat

theorem signed_up (s : Bool) (m up : Nat) : signed s m up = signed s m 0 * 2 ^ up := by
  unfold signed
  cases s <;> simp [Nat.shiftLeft_eq, Int.neg_mul]

theorem signed_natAbs (s : Bool) (m : Nat) : (signed s m 0).natAbs = m := by
  unfold signed
  cases s <;> simp

theorem signed_mul (s t : Bool) (m n : Nat) : signed (s ^^ t) (m * n) 0 = signed s m 0 * signed t n 0 := by
  unfold signed
  cases s <;> cases t <;> simp [Int.neg_mul, Int.mul_neg]

theorem signed_not (s : Bool) (m : Nat) : signed (!s) m 0 = - signed s m 0 := by
  unfold signed
  cases s <;> simp

theorem pow_split (a b : Nat) (h : a ≤ b) : (2 : Nat) ^ b = 2 ^ a * 2 ^ (b - a) := by
  rw [← Nat.pow_add]; congr 1; omega

theorem double_numbers : Ieee.double.fractionBits = 52 ∧ Ieee.double.leastPlace = -1074 ∧ Ieee.double.binade = 2 ^ 52 ∧
    Ieee.double.infRung = 2047 * 2 ^ 52 ∧ Ieee.double.signWeight = 2 ^ 63 := by decide

/-- A cut that leaves nothing over. -/
theorem cut_exact (way : Toward) (neg : Bool) (k drop : Nat) : way.cut neg (k * 2 ^ drop) drop = k := by
  unfold Toward.cut
  by_cases h0 : k = 0
  · subst h0
    simp
    cases way <;> simp
  · have hp : 0 < 2 ^ drop := Nat.two_pow_pos _
    have hk : 0 < k * 2 ^ drop := Nat.mul_pos (by omega) hp
    have hlog : drop ≤ (k * 2 ^ drop).log2 := (Nat.le_log2 (by omega)).2 (Nat.le_mul_of_pos_left _ (by omega))
    have hmin : min drop ((k * 2 ^ drop).log2 + 2) = drop := by omega
    rw [hmin, Nat.one_shiftLeft]
    dsimp only
    rw [Nat.mul_div_cancel _ hp, Nat.mul_mod_left]
    cases way <;> simp

theorem read_word (s : Bool) (rung : Nat) (h : rung < 2 ^ 63) (hlo : 2 ^ 52 ≤ rung) (hhi : rung < 2047 * 2 ^ 52) :
    Ieee.double.read (Ieee.double.word s rung) = .number s (2 ^ 52 + rung % 2 ^ 52) (-1074 + ((rung / 2 ^ 52 - 1 : Nat) : Int)) := by
  obtain ⟨-, h2, h3, h4, h5⟩ := double_numbers
  have hq : Ieee.double.word s rung / 2 ^ 63 % 2 = (if s then 1 else 0) := by
    unfold Format.word; rw [h5]
    cases s <;> simp <;> omega
  have hr : Ieee.double.word s rung % 2 ^ 63 = rung := by
    unfold Format.word; rw [h5]
    cases s <;> simp <;> omega
  unfold Format.read
  simp only [h2, h3, h4, h5, hq, hr]
  rw [if_neg (by omega), if_pos hhi]
  cases s <;> rfl

theorem read_zero (s : Bool) : Ieee.double.read (Ieee.double.word s 0) = .number s 0 (-1074) := by
  cases s <;> decide

theorem rung_arith (L K : Nat) (hL : L ≤ 52) (h1 : 2 ^ 52 ≤ K) (h2 : K < 2 ^ 53) :
    min ((L + 1022) * 2 ^ 52 + K) (2047 * 2 ^ 52) = (L + 1022) * 2 ^ 52 + K ∧ ((L + 1022) * 2 ^ 52 + K) % 2 ^ 52 = K - 2 ^ 52 ∧
    ((L + 1022) * 2 ^ 52 + K) / 2 ^ 52 = L + 1023 ∧ (L + 1022) * 2 ^ 52 + K < 2 ^ 63 ∧ 2 ^ 52 ≤ (L + 1022) * 2 ^ 52 + K ∧
    (L + 1022) * 2 ^ 52 + K < 2047 * 2 ^ 52 := by
  have e63 : (2 : Nat) ^ 63 = 2048 * 2 ^ 52 := by rw [show 63 = 11 + 52 from rfl, Nat.pow_add]
  have e53 : (2 : Nat) ^ 53 = 2 * 2 ^ 52 := by rw [show 53 = 1 + 52 from rfl, Nat.pow_add]
  rw [e63]; rw [e53] at h2
  have hpos : 0 < 2 ^ 52 := Nat.two_pow_pos _
  generalize 2 ^ 52 = B at *
  obtain ⟨r, rfl⟩ : ∃ r, K = B + r := ⟨K - B, by omega⟩
  have hr : r < B := by omega
  have e : (L + 1022) * B + (B + r) = r + B * (L + 1023) := by
    rw [Nat.mul_comm B, show L + 1023 = (L + 1022) + 1 by omega, Nat.add_mul (L + 1022) 1 B]; omega
  have hle : (L + 1023) * B ≤ 1075 * B := Nat.mul_le_mul_right _ (by omega)
  have hge : 1 * B ≤ (L + 1023) * B := Nat.mul_le_mul_right _ (by omega)
  rw [Nat.mul_comm B] at e
  rw [e]
  refine ⟨Nat.min_eq_left (by omega), ?_, ?_, by omega, by omega, by omega⟩
  · rw [Nat.add_mul_mod_self_right, Nat.mod_eq_of_lt hr]; omega
  · rw [Nat.add_mul_div_right _ _ hpos, Nat.div_eq_of_lt hr, Nat.zero_add]

theorem place_arith (L : Nat) : (-1074 : Int) + ((L + 1023 - 1 : Nat) : Int) = (L : Int) - 52 := by omega

/-- Written exactly: a number with a whole value below 2^53. -/
theorem write_rep {s : Bool} {m : Nat} {e : Int} {n : Int} (he : e ≤ 0) (hv : signed s m 0 = n * 2 ^ (-e).toNat) (hn : n.natAbs < 2 ^ 53) :
    Rep (Ieee.double.write (.number s m e)) n := by
  obtain ⟨d, rfl⟩ : ∃ d : Nat, e = -(d : Int) := ⟨(-e).toNat, by omega⟩
  have hd : (- -(d : Int)).toNat = d := by omega
  rw [hd] at hv
  have hm : m = n.natAbs * 2 ^ d := by
    have := congrArg Int.natAbs hv
    rw [signed_natAbs, Int.natAbs_mul, Int.natAbs_pow] at this
    exact this
  obtain ⟨h1, h2, h3, h4, h5⟩ := double_numbers
  show Rep (Ieee.double.nearest s m (-(d : Int))) n
  unfold Format.nearest
  by_cases h0 : m = 0
  · rw [if_pos h0]
    refine ⟨s, 0, -1074, read_zero s, by omega, ?_⟩
    have : n = 0 := by
      have hp : 0 < 2 ^ d := Nat.two_pow_pos _
      rw [h0] at hm
      have : n.natAbs = 0 := by
        rcases Nat.eq_zero_or_pos n.natAbs with h | h
        · exact h
        · have := Nat.mul_pos h hp; omega
      omega
    subst this
    rw [Int.zero_mul]
    cases s <;> rfl
  · rw [if_neg h0]
    have hN0 : n.natAbs ≠ 0 := by intro h; rw [h] at hm; simp at hm; exact h0 hm
    have hlog : m.log2 = n.natAbs.log2 + d := by
      rw [hm]
      refine (Nat.log2_eq_iff (by rw [← hm]; exact h0)).2 ⟨?_, ?_⟩
      · rw [Nat.pow_add]; exact Nat.mul_le_mul_right _ (Nat.log2_self_le hN0)
      · rw [show n.natAbs.log2 + d + 1 = (n.natAbs.log2 + 1) + d by omega, Nat.pow_add]
        exact Nat.mul_lt_mul_of_pos_right Nat.lt_log2_self (Nat.two_pow_pos _)
    have hL : n.natAbs.log2 ≤ 52 := by
      have := (Nat.log2_lt hN0).2 hn; omega
    obtain ⟨L, hLdef⟩ : ∃ L, L = n.natAbs.log2 := ⟨_, rfl⟩
    rw [← hLdef] at hlog hL
    have hlast : max (-(d : Int) + m.log2 - Ieee.double.fractionBits) Ieee.double.leastPlace = (L : Int) - 52 := by
      rw [hlog, h1, h2]; omega
    dsimp only
    rw [hlast, h2, h3, h4]
    have hkept : Toward.even.cut s (m <<< (-(d : Int) - ((L : Int) - 52)).toNat) ((L : Int) - 52 - -(d : Int)).toNat = n.natAbs * 2 ^ (52 - L) := by
      rw [Nat.shiftLeft_eq]
      by_cases hc : d ≤ 52 - L
      · have ha : (-(d : Int) - ((L : Int) - 52)).toNat = 52 - L - d := by omega
        have hb : ((L : Int) - 52 - -(d : Int)).toNat = 0 := by omega
        rw [ha, hb, hm, Nat.mul_assoc, ← Nat.pow_add, show d + (52 - L - d) = 52 - L by omega]
        have := cut_exact .even s (n.natAbs * 2 ^ (52 - L)) 0
        simpa using this
      · have ha : (-(d : Int) - ((L : Int) - 52)).toNat = 0 := by omega
        have hb : ((L : Int) - 52 - -(d : Int)).toNat = d - (52 - L) := by omega
        rw [ha, hb, hm, Nat.pow_zero, Nat.mul_one, pow_split (52 - L) d (by omega), ← Nat.mul_assoc]
        exact cut_exact .even s _ _
    rw [hkept]
    have hK1 : 2 ^ 52 ≤ n.natAbs * 2 ^ (52 - L) := by
      have := Nat.log2_self_le hN0
      rw [← hLdef] at this
      calc 2 ^ 52 = 2 ^ L * 2 ^ (52 - L) := pow_split L 52 hL
        _ ≤ _ := Nat.mul_le_mul_right _ this
    have hK2 : n.natAbs * 2 ^ (52 - L) < 2 ^ 53 := by
      have := @Nat.lt_log2_self n.natAbs
      rw [← hLdef] at this
      calc n.natAbs * 2 ^ (52 - L) < 2 ^ (L + 1) * 2 ^ (52 - L) := Nat.mul_lt_mul_of_pos_right this (Nat.two_pow_pos _)
        _ = 2 ^ 53 := by rw [← Nat.pow_add]; congr 1; omega
    have hup : ((L : Int) - 52 - -1074).toNat = L + 1022 := by omega
    rw [hup]
    generalize hK : n.natAbs * 2 ^ (52 - L) = K at hK1 hK2
    obtain ⟨hmin, hmod, hdiv, hr1, hr2, hr3⟩ := rung_arith L K hL hK1 hK2
    rw [hmin]
    refine ⟨s, K, (L : Int) - 52, ?_, by omega, ?_⟩
    · rw [read_word s _ hr1 hr2 hr3, hmod, hdiv, Nat.add_sub_cancel' hK1, place_arith]
    · have hz : (-((L : Int) - 52)).toNat = 52 - L := by omega
      rw [hz]
      have hp : (0 : Int) < 2 ^ d := Int.pow_pos (by omega)
      cases s
      · have hn0 : 0 ≤ n := by
          simp [signed] at hv
          rcases Int.lt_or_le n 0 with h | h
          · have := Int.mul_neg_of_neg_of_pos h hp; omega
          · exact h
        simp only [signed, Nat.shiftLeft_zero, if_false, Bool.false_eq_true]
        rw [← hK]
        push_cast
        rw [Int.natAbs_of_nonneg hn0]
      · have hn0 : n ≤ 0 := by
          simp [signed] at hv
          rcases Int.lt_or_le 0 n with h | h
          · have := Int.mul_pos h hp; omega
          · exact h
        simp only [signed, Nat.shiftLeft_zero, if_true]
        rw [← hK]
        push_cast
        rw [← Int.neg_mul, Int.ofNat_natAbs_of_nonpos hn0, Int.neg_neg]

theorem Rep.opposite {s : Bool} {m : Nat} {e n : Int} (hv : signed s m 0 = n * 2 ^ (-e).toNat) :
    signed (!s) m 0 = (-n) * 2 ^ (-e).toNat := by rw [signed_not, hv, Int.neg_mul]

theorem sum_number (s t : Bool) (m n : Nat) (i j a b : Int) (hi : i ≤ 0) (hj : j ≤ 0) (hx : signed s m 0 = a * 2 ^ (-i).toNat)
    (hy : signed t n 0 = b * 2 ^ (-j).toNat) :
    ∃ u k e, (Datum.number s m i).sum (.number t n j) = some (.number u k e) ∧ e ≤ 0 ∧ signed u k 0 = (a + b) * 2 ^ (-e).toNat := by
  have key : signed s m (i - min i j).toNat + signed t n (j - min i j).toNat = (a + b) * 2 ^ (-(min i j)).toNat := by
    rw [signed_up s, signed_up t, hx, hy, Int.mul_assoc, Int.mul_assoc, ← Int.pow_add, ← Int.pow_add, Int.add_mul]
    congr 3 <;> omega
  refine ⟨_, _, _, rfl, by omega, ?_⟩
  rw [key]
  generalize (a + b) * 2 ^ (-(min i j)).toNat = T
  by_cases h0 : T = 0
  · subst h0; simp [signed]
  · rw [if_neg h0]
    by_cases h1 : T < 0
    · simp [signed, h1]; omega
    · simp [signed, h1]; omega

theorem rep_add {x y : Nat} {a b : Int} (hx : Rep x a) (hy : Rep y b) (h : (a + b).natAbs < 2 ^ 53) :
    ∃ r, Ieee.double.add x y = some r ∧ Rep r (a + b) := by
  obtain ⟨s, m, i, h1, h2, h3⟩ := hx
  obtain ⟨t, n, j, g1, g2, g3⟩ := hy
  obtain ⟨u, k, e, e1, e2, e3⟩ := sum_number s t m n i j a b h2 g2 h3 g3
  exact ⟨_, by unfold Format.add; rw [h1, g1, e1]; rfl, write_rep e2 e3 h⟩

theorem rep_sub {x y : Nat} {a b : Int} (hx : Rep x a) (hy : Rep y b) (h : (a - b).natAbs < 2 ^ 53) :
    ∃ r, Ieee.double.sub x y = some r ∧ Rep r (a - b) := by
  obtain ⟨s, m, i, h1, h2, h3⟩ := hx
  obtain ⟨t, n, j, g1, g2, g3⟩ := hy
  obtain ⟨u, k, e, e1, e2, e3⟩ := sum_number s (!t) m n i j a (-b) h2 g2 h3 (Rep.opposite g3)
  rw [← Int.sub_eq_add_neg] at e3
  exact ⟨_, by unfold Format.sub; rw [h1, g1]; simp only [Datum.opposite]; rw [e1]; rfl, write_rep e2 e3 h⟩

theorem rep_mul {x y : Nat} {a b : Int} (hx : Rep x a) (hy : Rep y b) (h : (a * b).natAbs < 2 ^ 53) :
    ∃ r, Ieee.double.mul x y = some r ∧ Rep r (a * b) := by
  obtain ⟨s, m, i, h1, h2, h3⟩ := hx
  obtain ⟨t, n, j, g1, g2, g3⟩ := hy
  refine ⟨_, by unfold Format.mul; rw [h1, g1]; rfl, write_rep (by omega) ?_ h⟩
  rw [signed_mul, h3, g3]
  have : (-(i + j)).toNat = (-i).toNat + (-j).toNat := by omega
  rw [this, Int.pow_add]
  simp only [Int.mul_assoc, Int.mul_left_comm]

theorem rep_int (n : Int) (h : n.natAbs < 2 ^ 53) : Rep (floatOfInt .f64 n) n := by
  refine write_rep (e := 0) (by omega) ?_ h
  unfold signed
  by_cases h1 : n < 0
  · simp [h1]; omega
  · simp [h1]; omega

theorem rep_toInt {x : Nat} {n : Int} (hx : Rep x n) : (FloatKind.f64.decode x).toInt .zero = some n := by
  obtain ⟨s, m, i, h1, h2, h3⟩ := hx
  have hm : m = n.natAbs * 2 ^ (-i).toNat := by
    have := congrArg Int.natAbs h3
    rw [signed_natAbs, Int.natAbs_mul, Int.natAbs_pow] at this
    exact this
  have hi : i.toNat = 0 := by omega
  show (Ieee.double.read x).toInt .zero = some n
  rw [h1]
  unfold Datum.toInt Datum.integral
  simp only [hi, Nat.shiftLeft_zero]
  conv => lhs; rw [hm]
  rw [cut_exact]
  have hp : (0 : Int) < 2 ^ (-i).toNat := Int.pow_pos (by omega)
  cases s
  · have : 0 ≤ n := by
      simp [signed] at h3
      rcases Int.lt_or_le n 0 with h | h
      · have := Int.mul_neg_of_neg_of_pos h hp; omega
      · exact h
    simp [signed]; omega
  · have : n ≤ 0 := by
      simp [signed] at h3
      rcases Int.lt_or_le 0 n with h | h
      · have := Int.mul_pos h hp; omega
      · exact h
    simp [signed]; omega

end Go.Proofs.Ytkhgpeejmbfmjaa
/- Heaps (package heap): the iterator over arrays, one of a number, how many words are given: contracts. -/
namespace Go.Proofs.Ytkhgpeejmbfmjaa.Hp
open Go.RowKit Go.Shelf
set_option linter.unusedSimpArgs false
set_option linter.unusedVariables false
set_option maxRecDepth 100000
attribute [local go_sem] Oper.semAt_some

/-- What has come when k rounds are over. -/
def upto {α : Type} (f : Nat → α) (k : Nat) : List α := (List.range k).map f
theorem upto_succ {α : Type} (f : Nat → α) (k : Nat) : upto f (k + 1) = upto f k ++ [f k] := by simp [upto, List.range_succ]
theorem upto_length {α : Type} (f : Nat → α) (k : Nat) : (upto f k).length = k := by simp [upto]

/-- A slice value. -/
abbrev SV := Option Addr × Nat × Nat
def svV (s : SV) : Value := .slice s.1 s.2.1 s.2.2
/-- The array of a number: number 0 has none. -/
def nthV (vs : List SV) (k : Nat) : SV := if k = 0 then (none, 0, 0) else vs[k - 1]?.getD (none, 0, 0)

/-- A row of slices in memory. -/
def RowIn (n₀ : Nat) (W : World) (A : Option Addr) (vs : List SV) : Prop :=
  ∀ j, j < vs.length → ∃ b off, A = some ⟨b, off, none⟩ ∧ b < n₀ ∧ W.cell? ⟨b, off + j, none⟩ = some (svV (vs[j]?.getD (none, 0, 0)))
theorem RowIn.below {n₀ : Nat} {V W : World} (h : Below n₀ V W) {A : Option Addr} {vs : List SV} (hI : RowIn n₀ V A vs) : RowIn n₀ W A vs := fun j hj => by
  obtain ⟨b, off, hA, hb, hc⟩ := hI j hj
  exact ⟨b, off, hA, hb, (h.cell (p := ⟨b, off + j, none⟩) hb).trans hc⟩

/-- What a round keeps: what lay below n₀, and the box of the captured variable. -/
def KB (n₀ Bs : Nat) (W W' : World) : Prop := Below n₀ W W' ∧ W'.cell? ⟨Bs, 0, none⟩ = W.cell? ⟨Bs, 0, none⟩
theorem KB.refl (n₀ Bs : Nat) (W : World) : KB n₀ Bs W W := ⟨Below.refl _ _, rfl⟩
theorem KB.trans {n₀ Bs : Nat} {A B C : World} (h : KB n₀ Bs A B) (k : KB n₀ Bs B C) : KB n₀ Bs A C := ⟨h.1.trans k.1, k.2.trans h.2⟩
theorem KB.put {n₀ Bs : Nat} {w : World} (hn : n₀ ≤ w.heap.size) (hb : Bs < w.heap.size) (W : World) (l : Nat) (o o' : Obj) (hl : w.heap.size ≤ l) (h : W.heap[l]? = some o) (h2 : o.isCells = false) (h3 : o.isWalk = false) : KB n₀ Bs W (W.putObj l o') :=
  ⟨belowK_b hn W l o o' hl h h2 h3, by
    unfold World.cell?
    simp only
    rw [World.putObj_heap_other (by omega)]⟩

set_option maxRecDepth 100000 in
set_option maxHeartbeats 2000000 in
/-- The iterator's closure over a heap that was made, for every loop body that keeps what lay below n₀. -/
theorem all1_in (F : Fence) (n : Nat) (h25 : F.fn 49) (hro : F.round = none) (hn : 1 ≤ n) (l Bs gh n₀ cap : Nat) (A : Option Addr) (vs : List SV) (hreach : vs.length ≤ 100000) (J Jx : List (Nat × SV) → World → Prop)
    (hY : ∀ pre x W, J pre W → pre.length < vs.length + 1 → YieldAt F (n - 1) Try.prog l #[.int .i64 (x.1 : Int), .slice x.2.1 x.2.2.1 x.2.2.2] W fun e W' =>
      (e = .returned (.bool true) ∧ J (pre ++ [x]) W' ∧ KB n₀ Bs W W') ∨ (e = .returned (.bool false) ∧ Jx (pre ++ [x]) W'))
    (W : World) (hgh : gh < n₀) (hBs : W.cell? ⟨Bs, 0, none⟩ = some (.pointer (some ⟨gh, 0, none⟩))) (h1 : W.cell? ⟨gh, 1, none⟩ = some (.slice A vs.length cap)) (h2 : W.cell? ⟨gh, 2, none⟩ = some (.bool true))
    (hc : RowIn n₀ W A vs) (h0 : J [] W) :
    CallsIn F n Try.prog 49 #[.func (.yield l) #[] #[], .pointer (some ⟨Bs, 0, none⟩)] W fun e W' => (∃ v, e = .returned v) ∧
      ((∃ ys, ys = upto (fun j => (j, nthV vs j)) (vs.length + 1) ∧ J ys W') ∨ (∃ pre, (∃ k, k ≤ vs.length + 1 ∧ pre = upto (fun j => (j, nthV vs j)) k) ∧ Jx pre W')) := by
  refine callsIn_of_wp Try.func49 rfl h25 ?_ hro
  simp only [Try.ntmps49, List.size_toArray, List.length_cons, List.length_nil, Nat.reduceAdd, Nat.reduceSub, Array.replicate_succ, Array.replicate_zero, List.push_toArray, List.append_toArray, List.nil_append, List.cons_append]
  have HC := Lib.hid hc
  have H3 : Hid (W.cell? ⟨Bs, 0, none⟩ = some (.pointer (some ⟨gh, 0, none⟩)) ∧ W.cell? ⟨gh, 1, none⟩ = some (.slice A vs.length cap) ∧ W.cell? ⟨gh, 2, none⟩ = some (.bool true)) := Lib.hid ⟨hBs, h1, h2⟩
  clear hc
  gi_wp2
  gi_loopw [3] (fun i wr => ∃ k : Nat, k ≤ vs.length + 1 ∧ i = .int .i64 k ∧ J (upto (fun j => (j, nthV vs j)) k) wr ∧ KB n₀ Bs W wr)
    (fun i _ => vs.length + 1 - (intOf i).toNat)
  case atStart => exact ⟨0, Nat.zero_le _, rfl, h0, KB.refl _ _ _⟩
  case round =>
    obtain ⟨k, hk, rfl, hJs, hnx⟩ := hrel
    have c1 : wr.cell? ⟨Bs, 0, none⟩ = some (.pointer (some ⟨gh, 0, none⟩)) := hnx.2.trans H3.out.1
    have c2 : wr.cell? ⟨gh, 1, none⟩ = some (.slice A vs.length cap) := (hnx.1.cell (p := ⟨gh, 1, none⟩) hgh).trans H3.out.2.1
    clear hBs h1 h2
    by_cases hlt : k ≤ vs.length
    · by_cases hk0 : k = 0
      · subst hk0
        obtain ⟨fn, tmps, assign, body, hy, hR⟩ := hY _ (0, none, 0, 0) wr hJs (by rw [upto_length]; omega)
        dsimp only at hy
        rw [show ((0 : Nat) : Int) = 0 from rfl] at hy
        gi_wp2
        refine hR.mono ?_
        rintro e W3 (⟨rfl, hJ3, hk3⟩ | ⟨rfl, hJx3⟩)
        · gi_wp2
          go_roundw
          case rel => exact ⟨1, by omega, by simp, by rw [upto_succ]; exact hJ3, hnx.trans hk3⟩
          case measure => simp [intOf]
        · gi_wp2
          refine bodyPost_ret (results_none rfl _ _ _) rfl ?_
          exact ⟨⟨_, rfl⟩, .inr ⟨_, ⟨1, by omega, by rw [upto_succ]; rfl⟩, hJx3⟩⟩
      · obtain ⟨k, rfl⟩ : ∃ q, k = q + 1 := ⟨k - 1, by omega⟩
        obtain ⟨b, off, rfl, hb, hcx⟩ := HC.out k (by omega)
        have hcx' : wr.cell? ⟨b, off + k, none⟩ = some (svV (vs[k]?.getD (none, 0, 0))) := (hnx.1.cell (p := ⟨b, off + k, none⟩) hb).trans hcx
        have hnv : nthV vs (k + 1) = vs[k]?.getD (none, 0, 0) := by simp [nthV]
        obtain ⟨X, hX⟩ : ∃ X, vs[k]?.getD (none, 0, 0) = X := ⟨_, rfl⟩
        obtain ⟨fn, tmps, assign, body, hy, hR⟩ := hY _ (k + 1, X) wr hJs (by rw [upto_length]; omega)
        rw [hX] at hcx' hnv
        obtain ⟨XA, Xl, Xc⟩ := X
        dsimp only at hy
        simp only [svV] at hcx'
        have HX := Lib.hid hnv
        rw [show ((k + 1 : Nat) : Int) = (k : Int) + 1 by omega] at hy
        clear hcx hX hnv hk0
        gi_wp2
        refine hR.mono ?_
        rintro e W3 (⟨rfl, hJ3, hk3⟩ | ⟨rfl, hJx3⟩)
        · gi_wp2
          go_roundw
          case rel => exact ⟨k + 1 + 1, by omega, by first | go_num | simp, by rw [upto_succ, HX.out]; exact hJ3, hnx.trans hk3⟩
          case measure => simp [intOf]; omega
        · gi_wp2
          refine bodyPost_ret (results_none rfl _ _ _) rfl ?_
          exact ⟨⟨_, rfl⟩, .inr ⟨_, ⟨k + 1 + 1, by omega, by rw [upto_succ _ (k + 1), HX.out]⟩, hJx3⟩⟩
    · obtain rfl : k = vs.length + 1 := by omega
      gi_wp2
      go_end0
      exact ⟨⟨_, rfl⟩, .inl ⟨_, rfl, hJs⟩⟩

theorem all_stops (F : Fence) (n : Nat) (h25 : F.fn 49) (hro : F.round = none) (hn : 1 ≤ n) (Bs gh n₀ cap : Nat) (A : Option Addr) (vs : List SV) (hreach : vs.length ≤ 100000) (w : World) (hbs : Bs < w.heap.size) (hgh : gh < n₀) (hn₀ : n₀ ≤ w.heap.size)
    (hBs : w.cell? ⟨Bs, 0, none⟩ = some (.pointer (some ⟨gh, 0, none⟩))) (h1 : w.cell? ⟨gh, 1, none⟩ = some (.slice A vs.length cap)) (h2 : w.cell? ⟨gh, 2, none⟩ = some (.bool true)) (hI : RowIn n₀ w A vs) :
    SeqStopsK F n Try.prog 49 #[.pointer (some ⟨Bs, 0, none⟩)] (fun x : Nat × SV => #[Value.int .i64 (x.1 : Int), .slice x.2.1 x.2.2.1 x.2.2.2]) (KB n₀ Bs) (fun ys => ys = upto (fun j => (j, nthV vs j)) (vs.length + 1))
      (fun pre => ∃ k, k ≤ vs.length + 1 ∧ pre = upto (fun j => (j, nthV vs j)) k) (vs.length + 1) w := fun l J Jx W hW _ _ hY h0 =>
  all1_in F n h25 hro hn l Bs gh n₀ cap A vs hreach J Jx hY W hgh ((hW.cell (p := ⟨Bs, 0, none⟩) hbs).trans hBs) (((hW.mono hn₀).cell (p := ⟨gh, 1, none⟩) hgh).trans h1) (((hW.mono hn₀).cell (p := ⟨gh, 2, none⟩) hgh).trans h2) (hI.below (hW.mono hn₀)) h0

/-- A heap that nobody made. -/
def Unmade (n₀ : Nat) (W : World) (p : Option Addr) : Prop := p = none ∨ ∃ gh, p = some ⟨gh, 0, none⟩ ∧ gh < n₀ ∧ W.cell? ⟨gh, 2, none⟩ = some (.bool false)
theorem Unmade.below {n₀ : Nat} {V W : World} (h : Below n₀ V W) {p : Option Addr} (hu : Unmade n₀ V p) : Unmade n₀ W p := by
  rcases hu with rfl | ⟨gh, rfl, hl, hc⟩
  · exact .inl rfl
  · exact .inr ⟨gh, rfl, hl, (h.cell (p := ⟨gh, 2, none⟩) hl).trans hc⟩

theorem none_stops (F : Fence) (n : Nat) (h25 : F.fn 49) (hro : F.round = none) (Bs n₀ : Nat) (p : Option Addr) (w : World) (hbs : Bs < w.heap.size) (hn₀ : n₀ ≤ w.heap.size) (hBs : w.cell? ⟨Bs, 0, none⟩ = some (.pointer p)) (hu : Unmade n₀ w p) :
    SeqStopsK F n Try.prog 49 #[.pointer (some ⟨Bs, 0, none⟩)] (fun x : Nat × SV => #[Value.int .i64 (x.1 : Int), .slice x.2.1 x.2.2.1 x.2.2.2]) (KB n₀ Bs) (fun ys => ys = []) (fun _ => False) 0 w := fun l J Jx W hW _ _ hY h0 => by
  have c0 := (hW.cell (p := ⟨Bs, 0, none⟩) hbs).trans hBs
  have hu' := hu.below (hW.mono hn₀)
  clear hBs hu
  refine CallsIn.mono (R := fun e W' => (∃ v, e = .returned v) ∧ J [] W') ?_ (fun e W' ⟨he, hj⟩ => ⟨he, .inl ⟨_, rfl, hj⟩⟩)
  rcases hu' with rfl | ⟨gh, rfl, hl, hc⟩
  · refine callsIn_of_wp Try.func49 rfl h25 ?_ hro
    simp only [Try.ntmps49, List.size_toArray, List.length_cons, List.length_nil, Nat.reduceAdd, Nat.reduceSub, Array.replicate_succ, Array.replicate_zero, List.push_toArray, List.append_toArray, List.nil_append, List.cons_append]
    gi_wp2
    refine bodyPost_ret (results_none rfl _ _ _) rfl ?_
    exact ⟨⟨_, rfl⟩, h0⟩
  · refine callsIn_of_wp Try.func49 rfl h25 ?_ hro
    simp only [Try.ntmps49, List.size_toArray, List.length_cons, List.length_nil, Nat.reduceAdd, Nat.reduceSub, Array.replicate_succ, Array.replicate_zero, List.push_toArray, List.append_toArray, List.nil_append, List.cons_append]
    gi_wp2
    refine bodyPost_ret (results_none rfl _ _ _) rfl ?_
    exact ⟨⟨_, rfl⟩, h0⟩

theorem all_in (F : Fence) (n : Nat) (h22 : F.fn 26) (hro : F.round = none) (p : Option Addr) (w : World) :
    CallsIn F n Try.prog 26 #[.pointer p] w fun e w' => e = .returned (.func (.func 49) #[] #[.pointer (some ⟨w.heap.size, 0, none⟩)]) ∧ w' = w.alloc (.cells #[.pointer p] 56) := by
  refine callsIn_of_wp Try.func26 rfl h22 ?_ hro
  simp only [Try.ntmps26, List.size_toArray, List.length_cons, List.length_nil, Nat.reduceAdd, Nat.reduceSub, Array.replicate_succ, Array.replicate_zero, List.push_toArray, List.append_toArray, List.nil_append, List.cons_append]
  gi_wp2
  go_ret
  exact ⟨rfl, rfl⟩

/-- The array of a number, as the heap tells it. -/
def arrOf (vs : List SV) (ref : Int) : SV := if 0 ≤ ref ∧ ref ≤ vs.length then nthV vs ref.toNat else (none, 0, 0)
def hasB (vs : List SV) (ref : Int) : Bool := decide (0 ≤ ref ∧ ref ≤ vs.length)

set_option maxRecDepth 100000 in
set_option maxHeartbeats 2000000 in
theorem array_in (F : Fence) (n : Nat) (h21 : F.fn 70) (h22 : F.fn 26) (h25 : F.fn 49) (hro : F.round = none) (hn : 3 ≤ n) (gh : Nat) (ref : Int) (A : Option Addr) (cap : Nat) (vs : List SV) (hreach : vs.length ≤ 100000) (w : World) (hgh : gh < w.heap.size)
    (h1 : w.cell? ⟨gh, 1, none⟩ = some (.slice A vs.length cap)) (h2 : w.cell? ⟨gh, 2, none⟩ = some (.bool true)) (hI : RowIn w.heap.size w A vs) :
    CallsIn F n Try.prog 70 #[.pointer (some ⟨gh, 0, none⟩), .int .i64 ref] w fun e W' => e = .returned (.tuple #[svV (arrOf vs ref), .bool (hasB vs ref)]) ∧ Below w.heap.size w W' := by
  have hn1 : 1 ≤ n := by omega
  refine callsIn_of_wp_marks Try.func70 rfl h21 ?_ hro
  simp only [Try.ntmps70, List.size_toArray, List.length_cons, List.length_nil, Nat.reduceAdd, Nat.reduceSub, Array.replicate_succ, Array.replicate_zero, List.push_toArray, List.append_toArray, List.nil_append, List.cons_append]
  gi_wp2_with (gi_at_call 26; refine (all_in F (n - 1) h22 hro _ _).mono ?_; rintro e w' ⟨rfl, rfl⟩)
  obtain ⟨W0, hW0⟩ : ∃ W0, (((w.alloc (.cells #[.int .i64 ref] 2)).alloc (.cells #[.slice none 0 0] 74)).alloc (.cells #[.bool false] 4)).alloc (.cells #[.pointer (some ⟨gh, 0, none⟩)] 56) = W0 := ⟨_, rfl⟩
  have z0 : W0.heap.size = w.heap.size + 4 := by rw [← hW0]; simp
  have d0 : W0.cell? ⟨w.heap.size, 0, none⟩ = some (.int .i64 ref) := by rw [← hW0]; simp [go_sem]
  have d1 : W0.cell? ⟨w.heap.size + 1, 0, none⟩ = some (.slice none 0 0) := by rw [← hW0]; simp [go_sem]
  have d2 : W0.cell? ⟨w.heap.size + 1 + 1, 0, none⟩ = some (.bool false) := by rw [← hW0]; simp [go_sem]
  have d3 : W0.cell? ⟨w.heap.size + 1 + 1 + 1, 0, none⟩ = some (.pointer (some ⟨gh, 0, none⟩)) := by rw [← hW0]; simp [go_sem]
  have f1 : W0.frozen? ⟨w.heap.size + 1, 0, none⟩ = false := by rw [← hW0]; simp [go_sem]
  have f2 : W0.frozen? ⟨w.heap.size + 1 + 1, 0, none⟩ = false := by rw [← hW0]; simp [go_sem]
  have hB0 : Below w.heap.size w W0 := by rw [← hW0]; go_grown
  have b1 := (hB0.cell (p := ⟨gh, 1, none⟩) hgh).trans h1
  have b2 := (hB0.cell (p := ⟨gh, 2, none⟩) hgh).trans h2
  rw [hW0]
  clear hW0 h1 h2
  refine wpIn_rangeFunc_ownG hro hn1 (gf := 49) (lb := #[.pointer (some ⟨w.heap.size + 1 + 1 + 1, 0, none⟩)]) rfl h25 (enters_of Try.func49 (by kernel_rfl) rfl)
    (all_stops F (n - 1) h25 hro (by omega) (w.heap.size + 1 + 1 + 1) gh w.heap.size cap A vs hreach W0 (by omega) hgh (by omega) d3 b1 b2 (hI.below hB0)) KB.trans (KB.put (by omega) (by omega)) (Below.refl _ _) (fun _ => rfl)
    (fun pre W => ((∀ p ∈ pre, (p.1 : Int) ≠ ref) ∧ W.cell? ⟨w.heap.size, 0, none⟩ = some (.int .i64 ref) ∧ W.cell? ⟨w.heap.size + 1, 0, none⟩ = some (.slice none 0 0) ∧ W.frozen? ⟨w.heap.size + 1, 0, none⟩ = false ∧ W.cell? ⟨w.heap.size + 1 + 1, 0, none⟩ = some (.bool false) ∧ W.frozen? ⟨w.heap.size + 1 + 1, 0, none⟩ = false) ∧ Below w.heap.size w W)
    (fun c pre W => (c = .ret ∧ ∃ ini last, pre = ini ++ [last] ∧ ((last.1 : Int) = ref) ∧ W.cell? ⟨w.heap.size + 1, 0, none⟩ = some (svV last.2) ∧ W.cell? ⟨w.heap.size + 1 + 1, 0, none⟩ = some (.bool true)) ∧ Below w.heap.size w W)
    (OwnFrom.and (Own.from (fun s A B row hs hg hr => ⟨hs.1, cell_kept hs.2.1 hg hr, cell_kept hs.2.2.1 hg hr, (frozen_kept hs.2.2.1 hg hr).trans hs.2.2.2.1, cell_kept hs.2.2.2.2.1 hg hr, (frozen_kept hs.2.2.2.2.1 hg hr).trans hs.2.2.2.2.2⟩) _) (ownFrom_below (Nat.le_refl _) (by omega)))
    (fun c => OwnFrom.and (Own.from (fun s A B row hs hg hr => by obtain ⟨hc, ini, last, e1, e2, e3, e4⟩ := hs; exact ⟨hc, ini, last, e1, e2, cell_kept e3 hg hr, cell_kept e4 hg hr⟩) _) (ownFrom_below (Nat.le_refl _) (by omega)))
    ⟨⟨by simp, d0, d1, f1, d2, f2⟩, hB0⟩
    (fun x => { tmps := #[.pointer (some ⟨gh, 0, none⟩), .int .i64 ref, undef, .pointer (some ⟨w.heap.size, 0, none⟩), .pointer (some ⟨w.heap.size + 1, 0, none⟩), .pointer (some ⟨w.heap.size + 1 + 1, 0, none⟩), .int .i64 (x.1 : Int), .slice x.2.1 x.2.2.1 x.2.2.2, .pointer (some ⟨gh, 0, none⟩), .func (.func 49) #[] #[.pointer (some ⟨w.heap.size + 1 + 1 + 1, 0, none⟩)], .int .i64 (x.1 : Int), .slice x.2.1 x.2.2.1 x.2.2.2, undef, undef, undef, undef], defers := [] }) ?assign ?body ?done ?stop
  case assign =>
    intro l x W K hK
    gi_wp2
    exact hK
  case body =>
    rintro l pre x W ⟨⟨hp, c0, c1, g1, c2, g2⟩, hB⟩ _
    by_cases hx : (x.1 : Int) = ref
    · have e1 : ((x.1 : Int) == ref) = true := by rw [beq_iff_eq]; exact hx
      have HX := Lib.hid hx
      clear hx
      gi_wp2
      refine ⟨((KeepsOthers.setCell _ _ _).trans (KeepsOthers.setCell _ _ _)).from _, ⟨rfl, pre, x, rfl, HX.out, ?_, ?_⟩, ?_⟩
      · rw [World.cell?_setCell_other _ _ _ _ (by intro e'; injection e' with e1 e2; omega)]
        exact World.cell?_setCell_same' _ _ _ (by rw [c1]; rfl)
      · exact World.cell?_setCell_same' _ _ _ (by rw [World.cell?_setCell_other _ _ _ _ (by intro e'; injection e' with e1 e2; omega), c2]; rfl)
      · exact (hB.setCell (p := ⟨w.heap.size + 1, 0, none⟩) (by show w.heap.size ≤ w.heap.size + 1; omega) _).setCell (p := ⟨w.heap.size + 1 + 1, 0, none⟩) (by show w.heap.size ≤ w.heap.size + 1 + 1; omega) _
    · have e1 : ((x.1 : Int) == ref) = false := by rw [beq_eq_false_iff_ne]; exact hx
      have HX : Hid ((x.1 : Int) ≠ ref) := Lib.hid hx
      clear hx
      gi_wp2
      exact ⟨KeepsFrom.refl _ _, KB.refl _ _ _, ⟨fun p hp' => (List.mem_append.1 hp').elim (hp p) (fun e => by simp at e; subst e; exact HX.out), c0, c1, g1, c2, g2⟩, hB⟩
  case done =>
    rintro D ys W hD rfl ⟨⟨hne, c0, c1, g1, c2, g2⟩, hB⟩ hK
    gi_wp2
    have hK' := ((KeepsOthers.setCell W ⟨w.heap.size + 1, 0, none⟩ (.slice none 0 0)).trans (KeepsOthers.setCell _ ⟨w.heap.size + 1 + 1, 0, none⟩ (.bool false))).same D _ hK rfl
    refine ⟨by simp, .inl ⟨_, _, rfl, run_takeDeferred hK', ?_⟩⟩
    have k1 : ((W.setCell ⟨w.heap.size + 1, 0, none⟩ (.slice none 0 0)).setCell ⟨w.heap.size + 1 + 1, 0, none⟩ (.bool false)).cell? ⟨w.heap.size + 1, 0, none⟩ = some (.slice none 0 0) := by
      rw [World.cell?_setCell_other _ _ _ _ (by intro e'; injection e' with e1 e2; omega)]
      exact World.cell?_setCell_same' _ _ _ (by rw [c1]; rfl)
    have k2 : ((W.setCell ⟨w.heap.size + 1, 0, none⟩ (.slice none 0 0)).setCell ⟨w.heap.size + 1 + 1, 0, none⟩ (.bool false)).cell? ⟨w.heap.size + 1 + 1, 0, none⟩ = some (.bool false) :=
      World.cell?_setCell_same' _ _ _ (by rw [World.cell?_setCell_other _ _ _ _ (by intro e'; injection e' with e1 e2; omega), c2]; rfl)
    have hc4 := cell_kept k1 (grownBy_putObj' _ D (.deferred none)) (fun r e => by cases e; exact ⟨_, hK', rfl⟩)
    have hc5 := cell_kept k2 (grownBy_putObj' _ D (.deferred none)) (fun r e => by cases e; exact ⟨_, hK', rfl⟩)
    have hp : hasB vs ref = false ∧ arrOf vs ref = (none, 0, 0) := by
      have : ¬ (0 ≤ ref ∧ ref ≤ vs.length) := by
        rintro ⟨p0, p1⟩
        refine hne (ref.toNat, nthV vs ref.toNat) ?_ (by simp; omega)
        simp only [upto, List.mem_map, List.mem_range]
        exact ⟨ref.toNat, by omega, rfl⟩
      exact ⟨decide_eq_false this, if_neg this⟩
    refine ⟨.tuple #[.slice none 0 0, .bool false], ?_, by rw [hp.1, hp.2]; rfl, ((hB.setCell (p := ⟨w.heap.size + 1, 0, none⟩) (by show w.heap.size ≤ w.heap.size + 1; omega) _).setCell (p := ⟨w.heap.size + 1 + 1, 0, none⟩) (by show w.heap.size ≤ w.heap.size + 1 + 1; omega) _).trans (belowK_b (w := w) (Nat.le_refl _) _ D _ _ (by omega) hK' rfl rfl)⟩
    simp [results, Try.f70, go_sem, hc4, hc5]
  case stop =>
    rintro D c pre W hD ⟨k', hk, rfl⟩ ⟨⟨rfl, ini, last, e1, e2, c1, c2⟩, hB⟩ hK
    gi_wp2
    refine ⟨by simp, .inl ⟨_, _, rfl, run_takeDeferred hK, ?_⟩⟩
    have hc4 := cell_kept c1 (grownBy_putObj' _ D (.deferred none)) (fun r e => by cases e; exact ⟨_, hK, rfl⟩)
    have hc5 := cell_kept c2 (grownBy_putObj' _ D (.deferred none)) (fun r e => by cases e; exact ⟨_, hK, rfl⟩)
    obtain ⟨k2, rfl⟩ : ∃ k2, k' = k2 + 1 := by
      cases k' with
      | zero => simp [upto] at e1
      | succ k2 => exact ⟨k2, rfl⟩
    rw [upto_succ] at e1
    obtain ⟨rfl, e5⟩ := List.append_inj' e1 rfl
    obtain rfl : (k2, nthV vs k2) = last := by simpa using e5
    simp only at e2 hc4
    have hp : hasB vs ref = true ∧ arrOf vs ref = nthV vs k2 := by
      have : 0 ≤ ref ∧ ref ≤ vs.length := by omega
      refine ⟨decide_eq_true this, ?_⟩
      unfold arrOf
      rw [if_pos this, show ref.toNat = k2 by omega]
    refine ⟨.tuple #[svV (nthV vs k2), .bool true], ?_, by rw [hp.1, hp.2], hB.trans (belowK_b (w := w) (Nat.le_refl _) W D _ _ (by omega) hK rfl rfl)⟩
    simp [results, Try.f70, go_sem, hc4, hc5, svV]

end Go.Proofs.Ytkhgpeejmbfmjaa.Hp
/- Heaps (package heap): one of a number of a heap that nobody made; how many words are given: contracts. -/
namespace Go.Proofs.Ytkhgpeejmbfmjaa.Hp
open Go.RowKit Go.Shelf
set_option linter.unusedSimpArgs false
set_option linter.unusedVariables false
set_option maxRecDepth 100000
attribute [local go_sem] Oper.semAt_some

set_option maxRecDepth 100000 in
set_option maxHeartbeats 2000000 in
theorem arrayNone_in (F : Fence) (n : Nat) (h21 : F.fn 70) (h22 : F.fn 26) (h25 : F.fn 49) (hro : F.round = none) (hn : 3 ≤ n) (p : Option Addr) (ref : Int) (w : World) (hu : Unmade w.heap.size w p) :
    CallsIn F n Try.prog 70 #[.pointer p, .int .i64 ref] w fun e W' => e = .returned (.tuple #[.slice none 0 0, .bool false]) ∧ Below w.heap.size w W' := by
  have hn1 : 1 ≤ n := by omega
  refine callsIn_of_wp_marks Try.func70 rfl h21 ?_ hro
  simp only [Try.ntmps70, List.size_toArray, List.length_cons, List.length_nil, Nat.reduceAdd, Nat.reduceSub, Array.replicate_succ, Array.replicate_zero, List.push_toArray, List.append_toArray, List.nil_append, List.cons_append]
  gi_wp2_with (gi_at_call 26; refine (all_in F (n - 1) h22 hro _ _).mono ?_; rintro e w' ⟨rfl, rfl⟩)
  obtain ⟨W0, hW0⟩ : ∃ W0, (((w.alloc (.cells #[.int .i64 ref] 2)).alloc (.cells #[.slice none 0 0] 74)).alloc (.cells #[.bool false] 4)).alloc (.cells #[.pointer p] 56) = W0 := ⟨_, rfl⟩
  have z0 : W0.heap.size = w.heap.size + 4 := by rw [← hW0]; simp
  have d1 : W0.cell? ⟨w.heap.size + 1, 0, none⟩ = some (.slice none 0 0) := by rw [← hW0]; simp [go_sem]
  have d2 : W0.cell? ⟨w.heap.size + 1 + 1, 0, none⟩ = some (.bool false) := by rw [← hW0]; simp [go_sem]
  have d3 : W0.cell? ⟨w.heap.size + 1 + 1 + 1, 0, none⟩ = some (.pointer p) := by rw [← hW0]; simp [go_sem]
  have f1 : W0.frozen? ⟨w.heap.size + 1, 0, none⟩ = false := by rw [← hW0]; simp [go_sem]
  have f2 : W0.frozen? ⟨w.heap.size + 1 + 1, 0, none⟩ = false := by rw [← hW0]; simp [go_sem]
  have hB0 : Below w.heap.size w W0 := by rw [← hW0]; go_grown
  rw [hW0]
  clear hW0
  refine wpIn_rangeFunc_ownG hro hn1 (gf := 49) (lb := #[.pointer (some ⟨w.heap.size + 1 + 1 + 1, 0, none⟩)]) rfl h25 (enters_of Try.func49 (by kernel_rfl) rfl)
    (none_stops F (n - 1) h25 hro (w.heap.size + 1 + 1 + 1) w.heap.size p W0 (by omega) (by omega) d3 (hu.below hB0)) KB.trans (KB.put (by omega) (by omega)) (Below.refl _ _) (fun _ => rfl)
    (fun pre W => (W.cell? ⟨w.heap.size + 1, 0, none⟩ = some (.slice none 0 0) ∧ W.frozen? ⟨w.heap.size + 1, 0, none⟩ = false ∧ W.cell? ⟨w.heap.size + 1 + 1, 0, none⟩ = some (.bool false) ∧ W.frozen? ⟨w.heap.size + 1 + 1, 0, none⟩ = false) ∧ Below w.heap.size w W)
    (fun c pre W => False)
    (OwnFrom.and (Own.from (fun s A B row hs hg hr => ⟨cell_kept hs.1 hg hr, (frozen_kept hs.1 hg hr).trans hs.2.1, cell_kept hs.2.2.1 hg hr, (frozen_kept hs.2.2.1 hg hr).trans hs.2.2.2⟩) _) (ownFrom_below (Nat.le_refl _) (by omega)))
    (fun c => fun _ _ _ _ hs _ _ => hs)
    ⟨⟨d1, f1, d2, f2⟩, hB0⟩
    (fun x => { tmps := #[.pointer p, .int .i64 ref, undef, .pointer (some ⟨w.heap.size, 0, none⟩), .pointer (some ⟨w.heap.size + 1, 0, none⟩), .pointer (some ⟨w.heap.size + 1 + 1, 0, none⟩), .int .i64 (x.1 : Int), .slice x.2.1 x.2.2.1 x.2.2.2, .pointer p, .func (.func 49) #[] #[.pointer (some ⟨w.heap.size + 1 + 1 + 1, 0, none⟩)], .int .i64 (x.1 : Int), .slice x.2.1 x.2.2.1 x.2.2.2, undef, undef, undef, undef], defers := [] }) ?assign ?body ?done ?stop
  case assign =>
    intro l x W K hK
    gi_wp2
    exact hK
  case body =>
    rintro l pre x W _ hlen
    exact absurd hlen (by omega)
  case done =>
    rintro D ys W hD rfl ⟨⟨c1, g1, c2, g2⟩, hB⟩ hK
    gi_wp2
    have hK' := ((KeepsOthers.setCell W ⟨w.heap.size + 1, 0, none⟩ (.slice none 0 0)).trans (KeepsOthers.setCell _ ⟨w.heap.size + 1 + 1, 0, none⟩ (.bool false))).same D _ hK rfl
    refine ⟨by simp, .inl ⟨_, _, rfl, run_takeDeferred hK', ?_⟩⟩
    have k1 : ((W.setCell ⟨w.heap.size + 1, 0, none⟩ (.slice none 0 0)).setCell ⟨w.heap.size + 1 + 1, 0, none⟩ (.bool false)).cell? ⟨w.heap.size + 1, 0, none⟩ = some (.slice none 0 0) := by
      rw [World.cell?_setCell_other _ _ _ _ (by intro e'; injection e' with e1 e2; omega)]
      exact World.cell?_setCell_same' _ _ _ (by rw [c1]; rfl)
    have k2 : ((W.setCell ⟨w.heap.size + 1, 0, none⟩ (.slice none 0 0)).setCell ⟨w.heap.size + 1 + 1, 0, none⟩ (.bool false)).cell? ⟨w.heap.size + 1 + 1, 0, none⟩ = some (.bool false) :=
      World.cell?_setCell_same' _ _ _ (by rw [World.cell?_setCell_other _ _ _ _ (by intro e'; injection e' with e1 e2; omega), c2]; rfl)
    have hc4 := cell_kept k1 (grownBy_putObj' _ D (.deferred none)) (fun r e => by cases e; exact ⟨_, hK', rfl⟩)
    have hc5 := cell_kept k2 (grownBy_putObj' _ D (.deferred none)) (fun r e => by cases e; exact ⟨_, hK', rfl⟩)
    refine ⟨.tuple #[.slice none 0 0, .bool false], ?_, rfl, ((hB.setCell (p := ⟨w.heap.size + 1, 0, none⟩) (by show w.heap.size ≤ w.heap.size + 1; omega) _).setCell (p := ⟨w.heap.size + 1 + 1, 0, none⟩) (by show w.heap.size ≤ w.heap.size + 1 + 1; omega) _).trans (belowK_b (w := w) (Nat.le_refl _) _ D _ _ (by omega) hK' rfl rfl)⟩
    simp [results, Try.f70, go_sem, hc4, hc5]
  case stop =>
    rintro D c pre W hD _ h _
    exact h.elim

/-- How many words arrays have: as the program adds them up. -/
def sumW (l : List (Nat × SV)) : Int := l.foldl (fun s p => wrap64 (s + (p.2.2.1 : Int))) 0
theorem sumW_snoc (pre : List (Nat × SV)) (x : Nat × SV) : sumW (pre ++ [x]) = wrap64 (sumW pre + (x.2.2.1 : Int)) := by simp [sumW]

set_option maxRecDepth 100000 in
set_option maxHeartbeats 2000000 in
theorem used_in (F : Fence) (n : Nat) (h11 : F.fn 15) (h22 : F.fn 26) (h25 : F.fn 49) (hro : F.round = none) (hn : 3 ≤ n) (gh : Nat) (A : Option Addr) (cap : Nat) (vs : List SV) (hreach : vs.length ≤ 100000) (w : World) (hgh : gh < w.heap.size)
    (h1 : w.cell? ⟨gh, 1, none⟩ = some (.slice A vs.length cap)) (h2 : w.cell? ⟨gh, 2, none⟩ = some (.bool true)) (hI : RowIn w.heap.size w A vs) :
    CallsIn F n Try.prog 15 #[.pointer (some ⟨gh, 0, none⟩)] w fun e W' => e = .returned (.int .i64 (sumW (upto (fun j => (j, nthV vs j)) (vs.length + 1)))) ∧ Below w.heap.size w W' := by
  have hn1 : 1 ≤ n := by omega
  refine callsIn_of_wp_marks Try.func15 rfl h11 ?_ hro
  simp only [Try.ntmps15, List.size_toArray, List.length_cons, List.length_nil, Nat.reduceAdd, Nat.reduceSub, Array.replicate_succ, Array.replicate_zero, List.push_toArray, List.append_toArray, List.nil_append, List.cons_append]
  gi_wp2_with (gi_at_call 26; refine (all_in F (n - 1) h22 hro _ _).mono ?_; rintro e w' ⟨rfl, rfl⟩)
  obtain ⟨W0, hW0⟩ : ∃ W0, (w.alloc (.cells #[.int .i64 0] 3)).alloc (.cells #[.pointer (some ⟨gh, 0, none⟩)] 56) = W0 := ⟨_, rfl⟩
  have z0 : W0.heap.size = w.heap.size + 2 := by rw [← hW0]; simp
  have d0 : W0.cell? ⟨w.heap.size, 0, none⟩ = some (.int .i64 0) := by rw [← hW0]; simp [go_sem]
  have d3 : W0.cell? ⟨w.heap.size + 1, 0, none⟩ = some (.pointer (some ⟨gh, 0, none⟩)) := by rw [← hW0]; simp [go_sem]
  have f0 : W0.frozen? ⟨w.heap.size, 0, none⟩ = false := by rw [← hW0]; simp [go_sem]
  have hB0 : Below w.heap.size w W0 := by rw [← hW0]; go_grown
  have b1 := (hB0.cell (p := ⟨gh, 1, none⟩) hgh).trans h1
  have b2 := (hB0.cell (p := ⟨gh, 2, none⟩) hgh).trans h2
  rw [hW0]
  clear hW0 h1 h2
  refine wpIn_rangeFunc_ownG hro hn1 (gf := 49) (lb := #[.pointer (some ⟨w.heap.size + 1, 0, none⟩)]) rfl h25 (enters_of Try.func49 (by kernel_rfl) rfl)
    (all_stops F (n - 1) h25 hro (by omega) (w.heap.size + 1) gh w.heap.size cap A vs hreach W0 (by omega) hgh (by omega) d3 b1 b2 (hI.below hB0)) KB.trans (KB.put (by omega) (by omega)) (Below.refl _ _) (fun _ => rfl)
    (fun pre W => (W.cell? ⟨w.heap.size, 0, none⟩ = some (.int .i64 (sumW pre)) ∧ W.frozen? ⟨w.heap.size, 0, none⟩ = false) ∧ Below w.heap.size w W)
    (fun c pre W => False)
    (OwnFrom.and (Own.from (fun s A B row hs hg hr => ⟨cell_kept hs.1 hg hr, (frozen_kept hs.1 hg hr).trans hs.2⟩) _) (ownFrom_below (Nat.le_refl _) (by omega)))
    (fun c => fun _ _ _ _ hs _ _ => hs)
    ⟨⟨d0, f0⟩, hB0⟩
    (fun x => { tmps := #[.pointer (some ⟨gh, 0, none⟩), undef, .int .i64 0, .pointer (some ⟨w.heap.size, 0, none⟩), undef, .slice x.2.1 x.2.2.1 x.2.2.2, .pointer (some ⟨gh, 0, none⟩), .func (.func 49) #[] #[.pointer (some ⟨w.heap.size + 1, 0, none⟩)], .int .i64 (x.1 : Int), .slice x.2.1 x.2.2.1 x.2.2.2, undef, undef, undef, undef, undef], defers := [] }) ?assign ?body ?done ?stop
  case assign =>
    intro l x W K hK
    gi_wp2
    exact hK
  case body =>
    rintro l pre x W ⟨⟨c0, g0⟩, hB⟩ _
    gi_wp2
    refine ⟨(KeepsOthers.setCell _ _ _).from _, ⟨(Below.refl _ _).setCell (p := ⟨w.heap.size, 0, none⟩) (Nat.le_refl _) _, World.cell?_setCell_other _ _ _ _ (by intro e'; injection e' with e1 e2; omega)⟩, ⟨?_, by rw [World.frozen?_setCell]; exact g0⟩, hB.setCell (p := ⟨w.heap.size, 0, none⟩) (Nat.le_refl _) _⟩
    rw [sumW_snoc]
    exact World.cell?_setCell_same' _ _ _ (by rw [c0]; rfl)
  case done =>
    rintro D ys W hD rfl ⟨⟨c0, g0⟩, hB⟩ hK
    gi_wp2
    refine ⟨by simp, .inl ⟨_, _, rfl, run_takeDeferred hK, ?_⟩⟩
    exact ⟨_, results_tmp rfl _ _ _, rfl, hB.trans (belowK_b (w := w) (Nat.le_refl _) W D _ _ (by omega) hK rfl rfl)⟩
  case stop =>
    rintro D c pre W hD _ h _
    exact h.elim

set_option maxRecDepth 100000 in
set_option maxHeartbeats 2000000 in
theorem usedNone_in (F : Fence) (n : Nat) (h11 : F.fn 15) (h22 : F.fn 26) (h25 : F.fn 49) (hro : F.round = none) (hn : 3 ≤ n) (p : Option Addr) (w : World) (hu : Unmade w.heap.size w p) :
    CallsIn F n Try.prog 15 #[.pointer p] w fun e W' => e = .returned (.int .i64 0) ∧ Below w.heap.size w W' := by
  have hn1 : 1 ≤ n := by omega
  refine callsIn_of_wp_marks Try.func15 rfl h11 ?_ hro
  simp only [Try.ntmps15, List.size_toArray, List.length_cons, List.length_nil, Nat.reduceAdd, Nat.reduceSub, Array.replicate_succ, Array.replicate_zero, List.push_toArray, List.append_toArray, List.nil_append, List.cons_append]
  gi_wp2_with (gi_at_call 26; refine (all_in F (n - 1) h22 hro _ _).mono ?_; rintro e w' ⟨rfl, rfl⟩)
  obtain ⟨W0, hW0⟩ : ∃ W0, (w.alloc (.cells #[.int .i64 0] 3)).alloc (.cells #[.pointer p] 56) = W0 := ⟨_, rfl⟩
  have z0 : W0.heap.size = w.heap.size + 2 := by rw [← hW0]; simp
  have d0 : W0.cell? ⟨w.heap.size, 0, none⟩ = some (.int .i64 0) := by rw [← hW0]; simp [go_sem]
  have d3 : W0.cell? ⟨w.heap.size + 1, 0, none⟩ = some (.pointer p) := by rw [← hW0]; simp [go_sem]
  have f0 : W0.frozen? ⟨w.heap.size, 0, none⟩ = false := by rw [← hW0]; simp [go_sem]
  have hB0 : Below w.heap.size w W0 := by rw [← hW0]; go_grown
  rw [hW0]
  clear hW0
  refine wpIn_rangeFunc_ownG hro hn1 (gf := 49) (lb := #[.pointer (some ⟨w.heap.size + 1, 0, none⟩)]) rfl h25 (enters_of Try.func49 (by kernel_rfl) rfl)
    (none_stops F (n - 1) h25 hro (w.heap.size + 1) w.heap.size p W0 (by omega) (by omega) d3 (hu.below hB0)) KB.trans (KB.put (by omega) (by omega)) (Below.refl _ _) (fun _ => rfl)
    (fun pre W => (W.cell? ⟨w.heap.size, 0, none⟩ = some (.int .i64 0) ∧ W.frozen? ⟨w.heap.size, 0, none⟩ = false) ∧ Below w.heap.size w W)
    (fun c pre W => False)
    (OwnFrom.and (Own.from (fun s A B row hs hg hr => ⟨cell_kept hs.1 hg hr, (frozen_kept hs.1 hg hr).trans hs.2⟩) _) (ownFrom_below (Nat.le_refl _) (by omega)))
    (fun c => fun _ _ _ _ hs _ _ => hs)
    ⟨⟨d0, f0⟩, hB0⟩
    (fun x => { tmps := #[.pointer p, undef, .int .i64 0, .pointer (some ⟨w.heap.size, 0, none⟩), undef, .slice x.2.1 x.2.2.1 x.2.2.2, .pointer p, .func (.func 49) #[] #[.pointer (some ⟨w.heap.size + 1, 0, none⟩)], .int .i64 (x.1 : Int), .slice x.2.1 x.2.2.1 x.2.2.2, undef, undef, undef, undef, undef], defers := [] }) ?assign ?body ?done ?stop
  case assign =>
    intro l x W K hK
    gi_wp2
    exact hK
  case body =>
    rintro l pre x W _ hlen
    exact absurd hlen (by omega)
  case done =>
    rintro D ys W hD rfl ⟨⟨c0, g0⟩, hB⟩ hK
    gi_wp2
    refine ⟨by simp, .inl ⟨_, _, rfl, run_takeDeferred hK, ?_⟩⟩
    exact ⟨_, results_tmp rfl _ _ _, rfl, hB.trans (belowK_b (w := w) (Nat.le_refl _) W D _ _ (by omega) hK rfl rfl)⟩
  case stop =>
    rintro D c pre W hD _ h _
    exact h.elim

/-- Contracts of array and Used, of a heap that was made, and of one that was not. -/
theorem array_any (gh : Nat) (ref : Int) (A : Option Addr) (cap : Nat) (vs : List SV) (hreach : vs.length ≤ 100000) (w : World) (hgh : gh < w.heap.size)
    (h1 : w.cell? ⟨gh, 1, none⟩ = some (.slice A vs.length cap)) (h2 : w.cell? ⟨gh, 2, none⟩ = some (.bool true)) (hI : RowIn w.heap.size w A vs) :
    Calls Try.prog 70 #[.pointer (some ⟨gh, 0, none⟩), .int .i64 ref] w fun e W' => e = .returned (.tuple #[svV (arrOf vs ref), .bool (hasB vs ref)]) ∧ Below w.heap.size w W' :=
  (callsIn_wide (n := 3)).1 (array_in Fence.wide 3 True.intro True.intro True.intro rfl (Nat.le_refl _) gh ref A cap vs hreach w hgh h1 h2 hI)
theorem arrayNone_any (p : Option Addr) (ref : Int) (w : World) (hu : Unmade w.heap.size w p) :
    Calls Try.prog 70 #[.pointer p, .int .i64 ref] w fun e W' => e = .returned (.tuple #[.slice none 0 0, .bool false]) ∧ Below w.heap.size w W' :=
  (callsIn_wide (n := 3)).1 (arrayNone_in Fence.wide 3 True.intro True.intro True.intro rfl (Nat.le_refl _) p ref w hu)
theorem used_any (gh : Nat) (A : Option Addr) (cap : Nat) (vs : List SV) (hreach : vs.length ≤ 100000) (w : World) (hgh : gh < w.heap.size)
    (h1 : w.cell? ⟨gh, 1, none⟩ = some (.slice A vs.length cap)) (h2 : w.cell? ⟨gh, 2, none⟩ = some (.bool true)) (hI : RowIn w.heap.size w A vs) :
    Calls Try.prog 15 #[.pointer (some ⟨gh, 0, none⟩)] w fun e W' => e = .returned (.int .i64 (sumW (upto (fun j => (j, nthV vs j)) (vs.length + 1)))) ∧ Below w.heap.size w W' :=
  (callsIn_wide (n := 3)).1 (used_in Fence.wide 3 True.intro True.intro True.intro rfl (Nat.le_refl _) gh A cap vs hreach w hgh h1 h2 hI)
theorem usedNone_any (p : Option Addr) (w : World) (hu : Unmade w.heap.size w p) :
    Calls Try.prog 15 #[.pointer p] w fun e W' => e = .returned (.int .i64 0) ∧ Below w.heap.size w W' :=
  (callsIn_wide (n := 3)).1 (usedNone_in Fence.wide 3 True.intro True.intro True.intro rfl (Nat.le_refl _) p w hu)
#print axioms array_any
#print axioms used_any
end Go.Proofs.Ytkhgpeejmbfmjaa.Hp
/- Heaps (package heap): a heap that nobody made has nothing, and takes nothing: contracts, and the law's walk. -/
namespace Go.Proofs.Ytkhgpeejmbfmjaa.Hp
open Go.RowKit Go.Shelf
set_option linter.unusedSimpArgs false
set_option linter.unusedVariables false
set_option maxRecDepth 100000

theorem Unmade.next {V W : World} {p : Option Addr} (h : Unmade V.heap.size V p) (hb : Below V.heap.size V W) : Unmade W.heap.size W p := by
  rcases h with rfl | ⟨g, rfl, hl, hc⟩
  · exact .inl rfl
  · exact .inr ⟨g, rfl, Nat.lt_of_lt_of_le hl hb.size, (hb.cell (p := ⟨g, 2, none⟩) hl).trans hc⟩

theorem placeNone_any (p : Option Addr) (ref i : Int) (w : World) (hu : Unmade w.heap.size w p) :
    Calls Try.prog 68 #[.pointer p, .int .i64 ref, .int .i64 i] w fun e W' => e = .returned (.pointer none) ∧ Below w.heap.size w W' := by
  have HU := Lib.hid hu
  clear hu
  go_enter Try.func68, Try.ntmps68
  go_wp2_with fail
  refine (arrayNone_any p ref w HU.out).mono ?_
  rintro e w1 ⟨rfl, hb⟩
  go_wp2_with fail
  go_ret
  exact ⟨rfl, hb⟩
theorem atNone_any (p : Option Addr) (ref i : Int) (w : World) (hu : Unmade w.heap.size w p) :
    Calls Try.prog 44 #[.pointer p, .int .i64 ref, .int .i64 i] w fun e W' => e = .returned (.tuple #[.int .i64 0, .bool false]) ∧ Below w.heap.size w W' := by
  have HU := Lib.hid hu
  clear hu
  go_enter Try.func44, Try.ntmps44
  go_wp2_with fail
  refine (placeNone_any p ref i w HU.out).mono ?_
  rintro e w1 ⟨rfl, hb⟩
  go_wp2_with fail
  go_ret2
  exact ⟨rfl, hb⟩
theorem lenNone_any (p : Option Addr) (ref : Int) (w : World) (hu : Unmade w.heap.size w p) :
    Calls Try.prog 47 #[.pointer p, .int .i64 ref] w fun e W' => e = .returned (.tuple #[.int .i64 0, .bool false]) ∧ Below w.heap.size w W' := by
  have HU := Lib.hid hu
  clear hu
  go_enter Try.func47, Try.ntmps47
  go_wp2_with fail
  refine (arrayNone_any p ref w HU.out).mono ?_
  rintro e w1 ⟨rfl, hb⟩
  go_wp2_with fail
  go_ret2
  exact ⟨rfl, hb⟩
theorem putNone_any (p : Option Addr) (ref i v : Int) (w : World) (hu : Unmade w.heap.size w p) :
    Calls Try.prog 46 #[.pointer p, .int .i64 ref, .int .i64 i, .int .i64 v] w fun e W' => e = .returned (.bool false) ∧ Below w.heap.size w W' := by
  have HU := Lib.hid hu
  clear hu
  go_enter Try.func46, Try.ntmps46
  go_wp2_with fail
  refine (placeNone_any p ref i w HU.out).mono ?_
  rintro e w1 ⟨rfl, hb⟩
  go_wp2_with fail
  go_ret
  exact ⟨rfl, hb⟩
theorem makeNone_any (p : Option Addr) (n : Int) (w : World) (hu : Unmade w.heap.size w p) :
    Calls Try.prog 67 #[.pointer p, .int .i64 n] w fun e W' => e = .returned (.tuple #[.int .i64 0, .int .i64 1]) ∧ Below w.heap.size w W' := by
  have HU := Lib.hid hu
  rcases hu with rfl | ⟨gh, rfl, hl, hc⟩
  · go_enter Try.func67, Try.ntmps67
    go_wp2_with fail
    refine (usedNone_any none w HU.out).mono ?_
    rintro e w1 ⟨rfl, hb⟩
    go_wp2_with fail
    go_ret2
    exact ⟨rfl, hb⟩
  · clear hc
    go_enter Try.func67, Try.ntmps67
    go_wp2_with fail
    refine (usedNone_any _ w HU.out).mono ?_
    rintro e w1 ⟨rfl, hb⟩
    have hc : w1.cell? ⟨gh, 2, none⟩ = some (.bool false) := by
      rcases HU.out with e | ⟨g, e, h1, h2⟩
      · cases e
      · injection e with e; injection e with e; subst e
        exact (hb.cell (p := ⟨gh, 2, none⟩) h1).trans h2
    go_wp2_with fail
    go_ret2
    exact ⟨rfl, hb⟩

end Go.Proofs.Ytkhgpeejmbfmjaa.Hp
/- Heaps, in plain Lean: arrays one behind the other in one row of words. -/
namespace Go.Proofs.Ytkhgpeejmbfmjaa.Hp
set_option linter.unusedSimpArgs false
set_option linter.unusedVariables false
set_option maxRecDepth 100000

/-- Where array k begins. -/
def st (arrs : List (List Int)) (k : Nat) : Nat := (arrs.take k).flatten.length
/-- The words: the arrays', one behind the other, and the rest, noughts. -/
def words (room : Nat) (arrs : List (List Int)) : List Int := arrs.flatten ++ List.replicate (room - arrs.flatten.length) 0
theorem words_length {room : Nat} {arrs : List (List Int)} (h : arrs.flatten.length ≤ room) : (words room arrs).length = room := by
  simp only [words, List.length_append, List.length_replicate]; omega

theorem split_at {arrs : List (List Int)} {k : Nat} (h : k < arrs.length) : arrs = arrs.take k ++ arrs[k] :: arrs.drop (k + 1) := by
  conv => lhs; rw [← List.take_append_drop k arrs, List.drop_eq_getElem_cons h]
theorem flatten_split {arrs : List (List Int)} {k : Nat} (h : k < arrs.length) : arrs.flatten = (arrs.take k).flatten ++ (arrs[k] ++ (arrs.drop (k + 1)).flatten) := by
  have e : arrs.flatten = (arrs.take k ++ arrs[k] :: arrs.drop (k + 1)).flatten := congrArg List.flatten (split_at h)
  rw [e, List.flatten_append, List.flatten_cons]
theorem st_le {arrs : List (List Int)} {k : Nat} (h : k < arrs.length) : st arrs k + arrs[k].length ≤ arrs.flatten.length := by
  have := congrArg List.length (flatten_split h)
  simp only [List.length_append] at this
  unfold st
  omega
theorem st_succ {arrs : List (List Int)} {k : Nat} (h : k < arrs.length) : st arrs (k + 1) = st arrs k + arrs[k].length := by
  unfold st
  rw [List.take_succ_eq_append_getElem h]
  simp only [List.flatten_append, List.length_append, List.flatten_cons, List.flatten_nil, List.append_nil]
theorem st_all (arrs : List (List Int)) : st arrs arrs.length = arrs.flatten.length := by
  unfold st; rw [List.take_of_length_le (Nat.le_refl _)]
theorem words_get {room : Nat} {arrs : List (List Int)} {k i : Nat} (h : k < arrs.length) (hi : i < arrs[k].length) : (words room arrs)[st arrs k + i]? = some (arrs[k][i]) := by
  have hl := st_le h
  unfold words
  rw [List.getElem?_append_left (by omega), flatten_split h, List.getElem?_append_right (by unfold st; omega)]
  unfold st
  rw [Nat.add_sub_cancel_left, List.getElem?_append_left hi, List.getElem?_eq_getElem hi]
theorem words_set {room : Nat} {arrs : List (List Int)} {k i : Nat} (h : k < arrs.length) (hi : i < arrs[k].length) (v : Int) :
    (words room arrs).set (st arrs k + i) v = words room (arrs.set k (arrs[k].set i v)) := by
  have hl := st_le h
  have hk : k < (arrs.set k (arrs[k].set i v)).length := by simpa using h
  have e1 : (arrs.set k (arrs[k].set i v)).flatten = arrs.flatten.set (st arrs k + i) v := by
    rw [flatten_split hk, flatten_split h]
    rw [List.take_set_of_le (Nat.le_refl _), List.drop_set_of_lt (by omega), List.getElem_set_self]
    rw [List.set_append_right _ _ (by unfold st; omega)]
    unfold st
    rw [Nat.add_sub_cancel_left, List.set_append_left _ _ hi]
  unfold words
  rw [e1, List.length_set, List.set_append_left _ _ (by omega)]
theorem set_flatten_length {arrs : List (List Int)} {k : Nat} (h : k < arrs.length) (i : Nat) (v : Int) : (arrs.set k (arrs[k].set i v)).flatten.length = arrs.flatten.length := by
  have hk : k < (arrs.set k (arrs[k].set i v)).length := by simpa using h
  have e1 := congrArg List.length (flatten_split hk)
  have e2 := congrArg List.length (flatten_split h)
  rw [List.take_set_of_le (Nat.le_refl _), List.drop_set_of_lt (by omega), List.getElem_set_self] at e1
  simp only [List.length_append, List.length_set] at e1 e2
  omega
theorem set_st {arrs : List (List Int)} {k j : Nat} (h : k < arrs.length) (i : Nat) (v : Int) : st (arrs.set k (arrs[k].set i v)) j = st arrs j := by
  unfold st
  simp only [List.length_flatten, List.map_take, List.map_set]
  congr 2
  rw [List.length_set]
  have e : (List.map List.length arrs)[k]? = some arrs[k].length := by rw [List.getElem?_map, List.getElem?_eq_getElem h]; rfl
  obtain ⟨hk, e'⟩ := List.getElem?_eq_some_iff.1 e
  rw [← e']
  exact List.set_getElem_self hk
theorem words_make {room : Nat} {arrs : List (List Int)} {n : Nat} (h : arrs.flatten.length + n ≤ room) : words room (arrs ++ [List.replicate n 0]) = words room arrs := by
  unfold words
  simp only [List.flatten_append, List.flatten_cons, List.flatten_nil, List.append_nil, List.length_append, List.length_replicate, List.append_assoc]
  rw [List.replicate_append_replicate]
  congr 2
  omega
theorem make_st {arrs : List (List Int)} {x : List Int} {j : Nat} (h : j ≤ arrs.length) : st (arrs ++ [x]) j = st arrs j := by
  unfold st; rw [List.take_append_of_le_length h]

/-- The arrays as slices of the row of words. -/
def svs (gw : Nat) (arrs : List (List Int)) : List SV := (List.range arrs.length).map fun j => (some ⟨gw, if (arrs[j]?.getD []).length = 0 then 0 else st arrs j, none⟩, (arrs[j]?.getD []).length, (arrs[j]?.getD []).length)
theorem svs_length (gw : Nat) (arrs : List (List Int)) : (svs gw arrs).length = arrs.length := by simp [svs]
theorem svs_get (gw : Nat) (arrs : List (List Int)) (j : Nat) (h : j < arrs.length) : (svs gw arrs)[j]? = some (some ⟨gw, if arrs[j].length = 0 then 0 else st arrs j, none⟩, arrs[j].length, arrs[j].length) := by
  unfold svs
  simp only [List.getElem?_map, List.getElem?_range h, Option.map_some, List.getElem?_eq_getElem h, Option.getD_some]
theorem svs_set (gw : Nat) {arrs : List (List Int)} {k : Nat} (h : k < arrs.length) (i : Nat) (v : Int) : svs gw (arrs.set k (arrs[k].set i v)) = svs gw arrs := by
  apply List.ext_getElem?
  intro j
  by_cases hj : j < arrs.length
  · rw [svs_get _ _ j (by simpa using hj), svs_get _ _ j hj, set_st h, List.getElem_set]
    split
    · rename_i e; subst e; rw [List.length_set]
    · rfl
  · rw [List.getElem?_eq_none (by rw [svs_length]; simpa using hj), List.getElem?_eq_none (by rw [svs_length]; omega)]
theorem svs_make (gw : Nat) (arrs : List (List Int)) (x : List Int) : svs gw (arrs ++ [x]) = svs gw arrs ++ [(some ⟨gw, if x.length = 0 then 0 else arrs.flatten.length, none⟩, x.length, x.length)] := by
  apply List.ext_getElem?
  intro j
  rcases Nat.lt_trichotomy j arrs.length with hj | hj | hj
  · rw [svs_get _ _ j (by simp; omega), List.getElem?_append_left (by rw [svs_length]; exact hj), svs_get _ _ j hj, make_st (by omega), List.getElem_append_left hj]
  · subst hj
    rw [svs_get _ _ _ (by simp), List.getElem?_append_right (by rw [svs_length]; omega), svs_length, Nat.sub_self, make_st (Nat.le_refl _), st_all, List.getElem_append_right (by omega)]
    simp
  · rw [List.getElem?_eq_none (by rw [svs_length]; simp; omega), List.getElem?_eq_none (by simp [svs_length]; omega)]

/-- The words given, as the program adds them up. -/
theorem sum_svs (gw : Nat) (arrs : List (List Int)) (h : arrs.flatten.length ≤ 1024) : ∀ k, k ≤ arrs.length → sumW (upto (fun j => (j, nthV (svs gw arrs) j)) (k + 1)) = st arrs k := by
  intro k
  induction k with
  | zero => intro _; simp [upto, sumW, nthV, Go.RowKit.wrap64, st]
  | succ k ih =>
    intro hk
    rw [upto_succ, sumW_snoc, ih (by omega)]
    have hs := st_le (show k < arrs.length by omega)
    simp only [nthV, Nat.add_one_ne_zero, if_false, Nat.add_sub_cancel]
    rw [svs_get _ _ k (by omega), Option.getD_some, st_succ (by omega)]
    simp only
    unfold Go.RowKit.wrap64
    have hk2 : k < arrs.length := by omega
    have hs2 : st arrs k + arrs[k].length ≤ arrs.flatten.length := hs
    generalize arrs[k].length = q at *
    omega

end Go.Proofs.Ytkhgpeejmbfmjaa.Hp
/- Arguments that are structs and slices of such, opened to their cells. -/
namespace Go.Proofs.Ytkhgpeejmbfmjaa
open Go.ChangeShapes Go.WideShapes Go.ChangeAt Go.RowKit Go.Deep
set_option linter.unusedVariables false
section
variable {H : Type} {enc : TypeId × Value → H} {P : Program} {W : World}
theorem wf_min_max {k : IntKind} {z : Int} (h : (Lit.int k z).wf = true) : k.min ≤ z ∧ z ≤ k.max := by simpa [Lit.wf] using h
theorem wf_u8 {z : Int} (h : (Lit.int .u8 z).wf = true) : 0 ≤ z ∧ z ≤ 255 := wf_min_max h
theorem wf_u16 {z : Int} (h : (Lit.int .u16 z).wf = true) : 0 ≤ z ∧ z ≤ 65535 := wf_min_max h
theorem wf_i64' {z : Int} (h : (Lit.int .i64 z).wf = true) : -9223372036854775808 ≤ z ∧ z ≤ 9223372036854775807 := wf_min_max h
/-- The cells of a value of a type, where its parts are numbers, bools, structs and slices of such: what they are, and what lies behind the slices. -/
def deepOk (P : Program) (W : World) : Nat → TypeId → List Value → Prop
  | 0, _, _ => True
  | n + 1, t, cs => match P.underlying t with
    | some (.int k) => ∃ z, cs = [.int k z] ∧ (Lit.int k z).wf = true
    | some .bool => ∃ b, cs = [.bool b]
    | some (.struct fs) => ∀ (j : Nat) (f : Field), fs[j]? = some f → deepOk P W n f.type ((cs.drop f.offset).take (P.cellsOf f.type))
    | some (.slice e) => ∃ A len cap, cs = [.slice A len cap] ∧ len ≤ maxLen ∧ (A = none → len = 0) ∧ (0 < P.cellsOf e → ∀ i, i < len → ∃ (g o : Nat) (es : List Value), A = some ⟨g, o, none⟩ ∧ g < W.heap.size ∧ es.length = P.cellsOf e ∧
        (∀ q, q < P.cellsOf e → W.cell? ⟨g, o + (i * P.cellsOf e + q), none⟩ = es[q]?) ∧ deepOk P W n e es)
    | _ => True
theorem deepOk_int {n : Nat} {t : TypeId} {k : IntKind} {cs : List Value} (ht : P.underlying t = some (.int k)) (h : deepOk P W (n + 1) t cs) : ∃ z, cs = [.int k z] ∧ (Lit.int k z).wf = true := by
  rw [deepOk, ht] at h; exact h
theorem deepOk_bool {n : Nat} {t : TypeId} {cs : List Value} (ht : P.underlying t = some .bool) (h : deepOk P W (n + 1) t cs) : ∃ b, cs = [.bool b] := by
  rw [deepOk, ht] at h; exact h
theorem deepOk_struct {n : Nat} {t : TypeId} {fs : Array Field} {cs : List Value} (ht : P.underlying t = some (.struct fs)) (h : deepOk P W (n + 1) t cs) :
    ∀ (j : Nat) (f : Field), fs[j]? = some f → deepOk P W n f.type ((cs.drop f.offset).take (P.cellsOf f.type)) := by
  rw [deepOk, ht] at h; exact h
theorem deepOk_at {n : Nat} {t : TypeId} {fs : Array Field} {cs : List Value} (ht : P.underlying t = some (.struct fs)) (h : deepOk P W (n + 1) t cs) (j : Nat) (ty off c : Nat) (f : Field) (hj : fs[j]? = some f) (e1 : f.type = ty) (e2 : f.offset = off) (e3 : P.cellsOf ty = c) :
    deepOk P W n ty ((cs.drop off).take c) := by
  have := deepOk_struct ht h j f hj
  rw [e1, e2, e3] at this
  exact this
theorem deepOk_slice {n : Nat} {t e : TypeId} {cs : List Value} (ht : P.underlying t = some (.slice e)) (h : deepOk P W (n + 1) t cs) :
    ∃ A len cap, cs = [.slice A len cap] ∧ len ≤ maxLen ∧ (A = none → len = 0) ∧ (0 < P.cellsOf e → ∀ i, i < len → ∃ (g o : Nat) (es : List Value), A = some ⟨g, o, none⟩ ∧ g < W.heap.size ∧ es.length = P.cellsOf e ∧
        (∀ q, q < P.cellsOf e → W.cell? ⟨g, o + (i * P.cellsOf e + q), none⟩ = es[q]?) ∧ deepOk P W n e es) := by
  rw [deepOk, ht] at h; exact h
theorem deepOk_of : ∀ (n : Nat) {fuel : Nat} {t : TypeId} {cs : List Value} {x : DataW H × List MemPlace}, DataW.trod enc P W 0 (fun _ => true) true fuel t cs = some x → (∀ y ∈ x.2, y.block < W.heap.size) → deepOk P W n t cs := by
  intro n
  induction n with
  | zero => intros; exact True.intro
  | succ n ih =>
    intro fuel t cs x h hlt
    unfold deepOk
    split
    · rename_i k hk
      obtain ⟨z, hz, -, hw⟩ := DataW.trod_int hk h
      exact ⟨z, hz, hw⟩
    · rename_i hk
      obtain ⟨z, hz, -⟩ := DataW.trod_bool hk h
      exact ⟨z, hz⟩
    · rename_i fs hk
      obtain ⟨xs, m, -, hx, -, hlen, hf⟩ := DataW.trod_struct hk h
      intro j f hj
      have := hf j f hj
      have hjl : j < fs.size := (Array.getElem?_eq_some_iff.1 hj).1
      rw [List.getElem?_eq_getElem (by omega)] at this
      refine ih this (fun y hy => hlt y ?_)
      rw [hx]
      exact List.mem_flatMap.2 ⟨_, List.getElem_mem (by omega), hy⟩
    · rename_i e hk
      rcases open_slice hk h with ⟨hcs, hx⟩ | ⟨a, len, cap, m, n', D, Pl, hcs, _, hl, hm, hmm, hx, hi⟩
      · exact ⟨none, 0, 0, hcs, by decide, fun _ => rfl, fun _ i hi => by omega⟩
      · simp only [if_true] at hmm
        refine ⟨some a, len, cap, hcs, by omega, fun h => (by cases h), fun hc i hin => ?_⟩
        obtain ⟨es, hcells, htr⟩ := hi i (by omega)
        obtain ⟨_, hlen, hat⟩ := World.cells?_some hcells
        have hspot : a.spot = none := by
          obtain ⟨cs0, hcells0, -⟩ := hi 0 (by omega)
          obtain ⟨_, hlen0, hat0⟩ := World.cells?_some hcells0
          have h0 := hat0 0 hc
          rw [List.getElem?_eq_getElem (by omega)] at h0
          simpa [Addr.add] using World.cell?_spot h0
        obtain ⟨b, off, spot⟩ := a
        simp only at hspot
        subst hspot
        refine ⟨b, off, es, rfl, ?_, hlen, fun q hq => ?_, ih htr (fun y hy => hlt y ?_)⟩
        · refine hlt (.cell b off) ?_
          rw [hx]
          refine List.mem_append_left _ (MemPlace.mem_row.2 ⟨0, ?_, by simp⟩)
          have : 1 ≤ m := by omega
          exact Nat.mul_pos this hc
        · have := hat q hq
          rw [add_plain, add_plain] at this
          rw [← this, Nat.add_assoc]
        · rw [hx]
          exact List.mem_append_right _ (List.mem_flatMap.2 ⟨i, List.mem_range.2 (by omega), hy⟩)
    · exact True.intro
/-- A slice of such, opened. -/
theorem open_deep_slice {r : Reach} {b0 : Nat} {t e : TypeId} {v : Value} {d : DataW H} {p : List MemPlace} (ht : P.underlying t = some (.slice e))
    (hv : Value.okWide P W r b0 t v) (h : DataW.Trod enc P W 0 (fun _ => true) true t v d p) (hlt : ∀ x ∈ p, x.block < W.heap.size) :
    ∃ A n cap, v = .slice A n cap ∧ deepOk P W 8 t [.slice A n cap] := by
  obtain ⟨a0, len, cap, rfl⟩ := okWide_slice ht hv
  obtain ⟨fuel, hf⟩ := h
  exact ⟨_, _, _, rfl, deepOk_of 8 hf hlt⟩
/-- A struct of such, opened. -/
theorem open_deep_agg {r : Reach} {b0 : Nat} {t : TypeId} {fs : Array Field} {v : Value} {d : DataW H} {p : List MemPlace} (ht : P.underlying t = some (.struct fs))
    (hv : Value.okWide P W r b0 t v) (h : DataW.Trod enc P W 0 (fun _ => true) true t v d p) (hlt : ∀ x ∈ p, x.block < W.heap.size) :
    ∃ cs : Array Value, v = .agg cs ∧ cs.size = P.cellsOf t ∧ deepOk P W 8 t cs.toList := by
  obtain ⟨cs, rfl, hsz⟩ := okWide_struct ht hv
  obtain ⟨fuel, hf⟩ := h
  exact ⟨cs, rfl, hsz, deepOk_of 8 hf hlt⟩
end
end Go.Proofs.Ytkhgpeejmbfmjaa
/- A region that draws its order, by an invariant that speaks of the operations that have come up: each operation is walked once, whatever the order. -/
namespace Go.Proofs.Ytkhgpeejmbfmjaa
open Go.RowKit
set_option linter.unusedSimpArgs false
set_option linter.unusedVariables false

/-- Every operation waits for earlier ones alone. -/
def ordB (ops : Array Oper) : Bool := (List.range ops.size).all fun i => match ops[i]? with | some o => o.after.all (fun e => !Region.binds .any e || decide (e.on < i)) | none => true
theorem ordB_spec {ops : Array Oper} (h : ordB ops = true) {i : Nat} {o : Oper} (ho : ops[i]? = some o) : ∀ e ∈ o.after, Region.binds .any e = true → e.on < i := by
  intro e he hbd
  have hi : i < ops.size := (Array.getElem?_eq_some_iff.1 ho).1
  have := List.all_eq_true.1 h i (List.mem_range.2 hi)
  rw [ho] at this
  simp only [Array.all_eq_true_iff_forall_mem] at this
  have := this e he
  rw [hbd] at this
  exact of_decide_eq_true (by simpa using this)

theorem least_false (p : Nat → Bool) (n : Nat) : (∀ i, i < n → p i = true) ∨ ∃ i, i < n ∧ p i = false ∧ ∀ j, j < i → p j = true := by
  induction n with
  | zero => exact .inl (fun i hi => by omega)
  | succ n ih =>
    rcases ih with h | ⟨i, h1, h2, h3⟩
    · cases hp : p n
      · exact .inr ⟨n, by omega, hp, h⟩
      · exact .inl (fun i hi => by
          by_cases e : i = n
          · rw [e]; exact hp
          · exact h i (by omega))
    · exact .inr ⟨i, by omega, h2, h3⟩

section
variable {P : Program} {ops : Array Oper} {Q : Exit → Act → World → Prop}

theorem wpAny_J (hord : ordB ops = true) (J : (Nat → Bool) → Act → World → Prop)
    (hstep : ∀ (L : Nat → Bool) (a : Act) (w : World) (i : Nat) (o : Oper), J L a w → L i = false → ops[i]? = some o → (∀ e ∈ o.after, Region.binds .any e = true → L e.on = true) →
      ∀ K' : Act → World → Prop, (∀ a w, J (fun j => j == i || L j) a w → K' a w) → if Region.wanted o (yielded ops a.tmps) = true then Oper.wp P o a w K' Q else K' (a.put o.dst undef) w)
    (hend : ∀ (L : Nat → Bool) (a : Act) (w : World), J L a w → (∀ i, i < ops.size → L i = true) → Q .normal a w) :
    ∀ (fuel : Nat) (listed : Array Bool) (a : Act) (w : World), listed.size = ops.size → (List.range ops.size).countP (fun j => !listed.getD j false) ≤ fuel → J (fun j => listed.getD j false) a w → wpAny P .any ops Q fuel listed a w := by
  have hready : ∀ listed : Array Bool, listed.size = ops.size → Region.ready .any ops listed = [] → ∀ i, i < ops.size → listed.getD i false = true := by
    intro listed hs hr
    rcases least_false (fun j => listed.getD j false) ops.size with h | ⟨i, h1, h2, h3⟩
    · exact h
    · exfalso
      have ho : ops[i]? = some ops[i] := Array.getElem?_eq_getElem h1
      have : i ∈ Region.ready .any ops listed := mem_ready.2 ⟨getD_in (by omega) h2, _, ho, fun e he hbd => h3 _ (ordB_spec hord ho e he hbd)⟩
      rw [hr] at this
      cases this
  intro fuel
  induction fuel with
  | zero =>
    intro listed a w hs hc hJ
    have hall : ∀ i, i < ops.size → listed.getD i false = true := by
      intro i hi
      have := List.countP_eq_zero.1 (Nat.le_zero.1 hc) i (List.mem_range.2 hi)
      simpa using this
    refine ⟨?_, hend _ a w hJ hall⟩
    cases hr : Region.ready .any ops listed with
    | nil => rfl
    | cons i l =>
      exfalso
      have hi : i ∈ Region.ready .any ops listed := by rw [hr]; exact List.mem_cons_self
      obtain ⟨h1, o, ho, -⟩ := mem_ready.1 hi
      have := hall i (Array.getElem?_eq_some_iff.1 ho).1
      rw [getD_both h1] at this
      cases this
  | succ fuel ih =>
    intro listed a w hs hc hJ
    refine ⟨fun hr => hend _ a w hJ (hready listed hs hr), fun i hi => ?_⟩
    obtain ⟨h1, o, ho, hdep⟩ := mem_ready.1 hi
    have hil : i < ops.size := (Array.getElem?_eq_some_iff.1 ho).1
    refine wpOp_step ho (fun K' hK => hstep _ a w i o hJ (getD_both h1) ho hdep K' (fun a' w' hJ' => hK a' w' (ih _ a' w' (by simp [hs]) ?_ ?_)))
    · have key : ∀ n, n ≤ ops.size → i < n → (List.range n).countP (fun j => !(listed.setIfInBounds i true).getD j false) + 1 ≤ (List.range n).countP (fun j => !listed.getD j false) := by
        intro n
        induction n with
        | zero => intro _ h; omega
        | succ n ihn =>
          intro hn hin
          rw [List.range_succ, List.countP_append, List.countP_append]
          by_cases e : i = n
          · subst e
            have : (List.range i).countP (fun j => !(listed.setIfInBounds i true).getD j false) = (List.range i).countP (fun j => !listed.getD j false) := by
              refine List.countP_congr (fun j hj => ?_)
              rw [getD_set_ne false (by have := List.mem_range.1 hj; omega)]
            rw [this]
            have e1 : listed.getD i false = false := getD_both h1
            have e2 : (listed.setIfInBounds i true).getD i false = true := by
              rw [Array.getD_eq_getD_getElem?, Array.getElem?_setIfInBounds_self_of_lt (by omega)]; rfl
            simp only [List.countP_cons, List.countP_nil, e1, e2]
            simp
          · have := ihn (by omega) (by omega)
            simp only [List.countP_cons, List.countP_nil]
            rw [getD_set_ne false e]
            omega
      have := key ops.size (Nat.le_refl _) hil
      omega
    · have e : (fun j => (listed.setIfInBounds i true).getD j false) = (fun j => j == i || listed.getD j false) := by
        funext j
        by_cases e : i = j
        · subst e
          rw [Array.getD_eq_getD_getElem?, Array.getElem?_setIfInBounds_self_of_lt (by omega)]; simp
        · rw [getD_set_ne false e]
          have : (j == i) = false := by rw [beq_eq_false_iff_ne]; exact fun h => e h.symm
          rw [this, Bool.false_or]
      rw [e]
      exact hJ'

theorem wp_region_J {id : Nat} {a : Act} {w : World} (hm : P.follows .mixedOrders = true) (hord : ordB ops = true) (J : (Nat → Bool) → Act → World → Prop) (h0 : J (fun _ => false) a w.drew)
    (hstep : ∀ (L : Nat → Bool) (a : Act) (w : World) (i : Nat) (o : Oper), J L a w → L i = false → ops[i]? = some o → (∀ e ∈ o.after, Region.binds .any e = true → L e.on = true) →
      ∀ K' : Act → World → Prop, (∀ a w, J (fun j => j == i || L j) a w → K' a w) → if Region.wanted o (yielded ops a.tmps) = true then Oper.wp P o a w K' Q else K' (a.put o.dst undef) w)
    (hend : ∀ (L : Nat → Bool) (a : Act) (w : World), J L a w → (∀ i, i < ops.size → L i = true) → Q .normal a w) : (Code.region id ops true).wp P Q a w := by
  refine wp_region_any hm (wpAny_J hord J hstep hend _ _ _ _ (by simp) ?_ ?_)
  · have := List.countP_le_length (p := fun j => !(Array.replicate ops.size false).getD j false) (l := List.range ops.size)
    rwa [List.length_range] at this
  · have e : (fun j => (Array.replicate ops.size false).getD j false) = fun _ => false := by funext j; exact getD_replicate_false _ _
    rw [e]
    exact h0
end
end Go.Proofs.Ytkhgpeejmbfmjaa
/- What may have changed between two worlds: the old blocks of a set, and nothing else that was there. -/
namespace Go.Proofs.Ytkhgpeejmbfmjaa
open Go.RowKit
set_option linter.unusedSimpArgs false
set_option linter.unusedVariables false

structure Touch (S : Nat → Prop) (W W' : World) : Prop where
  os : W'.os = W.os
  tape : W'.tape = W.tape
  output : W'.output = W.output
  size : W.heap.size ≤ W'.heap.size
  block : ∀ k, k < W.heap.size → ¬ S k → W'.heap[k]? = W.heap[k]?

theorem Touch.refl (S : Nat → Prop) (W : World) : Touch S W W := ⟨rfl, rfl, rfl, Nat.le_refl _, fun _ _ _ => rfl⟩
theorem Touch.trans {S : Nat → Prop} {A B C : World} (h : Touch S A B) (k : Touch S B C) : Touch S A C :=
  ⟨k.os.trans h.os, k.tape.trans h.tape, k.output.trans h.output, Nat.le_trans h.size k.size, fun j hj hs => (k.block j (Nat.lt_of_lt_of_le hj h.size) hs).trans (h.block j hj hs)⟩
/-- Two changes, the later one to other blocks too, that were not there ahead of the first. -/
theorem Touch.trans' {S T : Nat → Prop} {A B C : World} (h : Touch S A B) (k : Touch T B C) (ht : ∀ j, j < A.heap.size → T j → S j) : Touch S A C :=
  ⟨k.os.trans h.os, k.tape.trans h.tape, k.output.trans h.output, Nat.le_trans h.size k.size, fun j hj hs => (k.block j (Nat.lt_of_lt_of_le hj h.size) (fun e => hs (ht j hj e))).trans (h.block j hj hs)⟩
theorem Touch.mono {S T : Nat → Prop} {A B : World} (h : Touch S A B) (hs : ∀ j, j < A.heap.size → S j → T j) : Touch T A B :=
  ⟨h.os, h.tape, h.output, h.size, fun j hj ht => h.block j hj (fun e => ht (hs j hj e))⟩
theorem Touch.of_below {n : Nat} {A B : World} (h : Below n A B) (hn : A.heap.size ≤ n) (S : Nat → Prop) : Touch S A B :=
  ⟨h.os, h.tape, h.output, by have := h.size; omega, fun j hj _ => h.block j (by omega)⟩
theorem Touch.below {S : Nat → Prop} {n : Nat} {A B : World} (h : Touch S A B) (hn : n ≤ A.heap.size) (hs : ∀ j, S j → n ≤ j) : Below n A B :=
  ⟨h.os, h.tape, h.output, h.size, fun j hj => h.block j (by omega) (fun e => by have := hs j e; omega)⟩
theorem Touch.alloc {S : Nat → Prop} {A B : World} (h : Touch S A B) (o : Obj) : Touch S A (B.alloc o) :=
  h.trans (Touch.of_below ((Below.refl _ B).alloc (Nat.le_refl _) o) (Nat.le_refl _) S)
theorem Touch.setCell {S : Nat → Prop} {A B : World} (h : Touch S A B) (a : Addr) (v : Value) (ha : a.block < A.heap.size → S a.block) : Touch S A (B.setCell a v) := by
  refine ⟨h.os, h.tape, h.output, by simpa using h.size, fun j hj hs => ?_⟩
  rw [← h.block j hj hs]
  have hne : a.block ≠ j := fun e => hs (e ▸ ha (e ▸ hj))
  simp [World.setCell, Array.getElem?_modify, hne]
theorem Touch.drew {S : Nat → Prop} {A B : World} (h : Touch S A B) : Touch S A B.drew := ⟨h.os, h.tape, h.output, h.size, h.block⟩
theorem Touch.drewN {S : Nat → Prop} {A B : World} (h : Touch S A B) (k : Nat) : Touch S A (B.drewN k) :=
  ⟨h.os, h.tape, h.output, h.size, h.block⟩
theorem Touch.grown {S : Nat → Prop} {A B C : World} (h : Touch S A B) {row : Option Nat} (hg : B.grownBy C row) (hr : ∀ k, row = some k → k < A.heap.size → S k) : Touch S A C :=
  ⟨hg.os.trans h.os, hg.tape.trans h.tape, hg.output.trans h.output, Nat.le_trans h.size hg.size, fun j hj hs => (hg.block j (Nat.lt_of_lt_of_le hj h.size) (fun e => hs (hr j e.symm hj))).trans (h.block j hj hs)⟩
theorem Touch.cell {S : Nat → Prop} {A B : World} (h : Touch S A B) {g o : Nat} (hg : g < A.heap.size) (hs : ¬ S g) : B.cell? ⟨g, o, none⟩ = A.cell? ⟨g, o, none⟩ := by
  unfold World.cell?
  simp only [h.block g hg hs]
theorem Touch.frozen {S : Nat → Prop} {A B : World} (h : Touch S A B) {g o : Nat} (hg : g < A.heap.size) (hs : ¬ S g) : B.frozen? ⟨g, o, none⟩ = A.frozen? ⟨g, o, none⟩ := by
  unfold World.frozen?
  simp only [h.block g hg hs]
theorem Blk.touch {S : Nat → Prop} {A B : World} {b : Nat} {vs : List Value} (h : Blk A b vs) (t : Touch S A B) (hs : ¬ S b) : Blk B b vs :=
  ⟨fun j v hj => (t.cell h.l hs).trans (h.c j v hj), fun o => (t.frozen h.l hs).trans (h.f o), Nat.lt_of_lt_of_le h.l t.size⟩
/-- A row that the slice value owns lies as it lay. -/
theorem Touch.row {S : Nat → Prop} {A B : World} (t : Touch S A B) {base : Nat} {e : TypeId} {size : Nat} {v : Value} {n : Nat} {xs : List Value} (h : A.ownsRow base e size v n xs)
    (hs : ∀ g o c, v = .slice (some ⟨g, 0, none⟩) o c → ¬ S g) : B.ownsRow base e size v n xs := by
  obtain ⟨hl, h⟩ := h
  refine ⟨hl, ?_⟩
  rcases h with h | ⟨g, cap, cur, hv, hb, hc, r⟩
  · exact .inl h
  · have hg : g < A.heap.size := (Array.getElem?_eq_some_iff.1 hc).1
    exact .inr ⟨g, cap, cur, hv, hb, (t.block g hg (hs g _ _ hv)).trans hc, r⟩

end Go.Proofs.Ytkhgpeejmbfmjaa
/- Frames (package frame): what lies in memory, and the contracts of the small functions. -/
namespace Go.Proofs.Ytkhgpeejmbfmjaa
open Go.RowKit
set_option linter.unusedSimpArgs false
set_option linter.unusedVariables false
set_option maxRecDepth 100000

/-- A value: its kind, and two numbers. -/
abbrev V := Int × Int × Int
def I64 (x : Int) : Prop := -9223372036854775808 ≤ x ∧ x ≤ 9223372036854775807
def VOk (v : V) : Prop := (0 ≤ v.1 ∧ v.1 ≤ 255) ∧ I64 v.2.1 ∧ I64 v.2.2
def zv : V := (0, 0, 0)
def vc (v : V) : List Value := [.int .u8 v.1, .int .i64 v.2.1, .int .i64 v.2.2]
def vagg (v : V) : Value := .agg #[.int .u8 v.1, .int .i64 v.2.1, .int .i64 v.2.2]
def vcs (l : List V) : List Value := l.flatMap vc
theorem vcs_nil : vcs [] = [] := rfl
theorem vcs_cons (v : V) (l : List V) : vcs (v :: l) = .int .u8 v.1 :: .int .i64 v.2.1 :: .int .i64 v.2.2 :: vcs l := rfl
theorem vcs_append (l m : List V) : vcs (l ++ m) = vcs l ++ vcs m := List.flatMap_append
theorem vcs_length (l : List V) : (vcs l).length = l.length * 3 := by
  induction l with
  | nil => rfl
  | cons v l ih => rw [vcs_cons]; simp only [List.length_cons, ih]; omega
theorem vcs_get (l : List V) : ∀ i, (h : i < l.length) → (vcs l)[i * 3]? = some (.int .u8 l[i].1) ∧ (vcs l)[i * 3 + 1]? = some (.int .i64 l[i].2.1) ∧ (vcs l)[i * 3 + 2]? = some (.int .i64 l[i].2.2) := by
  induction l with
  | nil => intro i h; simp at h
  | cons v l ih =>
    intro i h
    rw [vcs_cons]
    cases i with
    | zero => exact ⟨rfl, rfl, rfl⟩
    | succ i =>
      obtain ⟨a, b, c⟩ := ih i (by simpa using h)
      have e : (i + 1) * 3 = i * 3 + 1 + 1 + 1 := by omega
      rw [e]
      refine ⟨?_, ?_, ?_⟩
      · simpa only [List.getElem?_cons_succ, List.getElem_cons_succ] using a
      · have e2 : i * 3 + 1 + 1 + 1 + 1 = (i * 3 + 1) + 1 + 1 + 1 := by omega
        rw [e2]
        simpa only [List.getElem?_cons_succ, List.getElem_cons_succ] using b
      · have e2 : i * 3 + 1 + 1 + 1 + 2 = (i * 3 + 2) + 1 + 1 + 1 := by omega
        rw [e2]
        simpa only [List.getElem?_cons_succ, List.getElem_cons_succ] using c
theorem vcs_set (l : List V) (v : V) : ∀ i, i < l.length → (((vcs l).set (i * 3) (.int .u8 v.1)).set (i * 3 + 1) (.int .i64 v.2.1)).set (i * 3 + 2) (.int .i64 v.2.2) = vcs (l.set i v) := by
  induction l with
  | nil => intro i h; simp at h
  | cons u l ih =>
    intro i h
    cases i with
    | zero => rfl
    | succ i =>
      have hi := ih i (by simpa using h)
      rw [List.set_cons_succ, vcs_cons, vcs_cons, ← hi]
      have e : (i + 1) * 3 = i * 3 + 1 + 1 + 1 := by omega
      rw [e]
      have e2 : i * 3 + 1 + 1 + 1 + 1 = (i * 3 + 1) + 1 + 1 + 1 := by omega
      have e3 : i * 3 + 1 + 1 + 1 + 2 = (i * 3 + 2) + 1 + 1 + 1 := by omega
      rw [e3, e2]
      simp only [List.set_cons_succ]

/-- A frame. -/
structure Fr where
  locs : List V
  many : Nat
  stk : List V
  place : Int
  turns : Int → Int

/-- .. in memory. -/
structure FrAt (W : World) (base fg gm nm : Nat) (A : Option Addr) (cap : Nat) (F : Fr) : Prop where
  blk : Blk W fg (vcs F.locs ++ [.int .i64 F.many, .slice A F.stk.length cap, .int .i64 F.place, .map (some gm)])
  ll : F.locs.length = 16
  ml : F.many ≤ 16
  sl : F.stk.length ≤ 256
  row : W.ownsRow base 29 3 (.slice A F.stk.length cap) F.stk.length (vcs F.stk)
  mp : ∃ D : DataW Unit, W.ownsMap Try.prog 3 (plainElem Try.prog 3) gm nm D ∧ Maps.IsMap D ∧ ∀ k : Int, D.atKey (.int .i64 k) (.lit (.int .i64 0)) = .lit (.int .i64 (F.turns k))
  tw : ∀ k, 0 ≤ F.turns k ∧ F.turns k ≤ 9223372036854775807
  vo : ∀ v ∈ F.locs, VOk v
  so : ∀ v ∈ F.stk, VOk v
  b1 : fg < base
  b2 : gm < base
  ne : fg ≠ gm
  bs : base ≤ W.heap.size

/-- Its blocks. -/
def FF (fg gm : Nat) (A : Option Addr) : Nat → Prop := fun b => b = fg ∨ b = gm ∨ ∃ a : Addr, A = some a ∧ b = a.block

theorem ownsMap_touch {S : Nat → Prop} {W W' : World} (t : Touch S W W') {b n : Nat} {R : Value → Option (DataW Unit × List MemPlace)} {D : DataW Unit} (h : W.ownsMap Try.prog 3 R b n D) (hs : ¬ S b) : W'.ownsMap Try.prog 3 R b n D := by
  have hlt := h.lt
  obtain ⟨es, clock, hb, F, hn, hD⟩ := h
  exact ⟨es, clock, (t.block b hlt hs).trans hb, F, hn, hD⟩

section
variable {W : World} {base fg gm nm : Nat} {A : Option Addr} {cap : Nat} {F : Fr}
theorem FrAt.cx (h : FrAt W base fg gm nm A cap F) {j : Nat} {v : Value} (hj : ([.int .i64 F.many, .slice A F.stk.length cap, .int .i64 F.place, .map (some gm)] : List Value)[j]? = some v) : W.cell? ⟨fg, 48 + j, none⟩ = some v := by
  refine h.blk.c _ _ ?_
  have e : (vcs F.locs).length = 48 := by rw [vcs_length, h.ll]
  rw [List.getElem?_append_right (by omega), e, Nat.add_sub_cancel_left]
  exact hj
theorem FrAt.cl (h : FrAt W base fg gm nm A cap F) {i : Nat} (hi : i < 16) : ∃ hl : i < F.locs.length, W.cell? ⟨fg, i * 3, none⟩ = some (.int .u8 F.locs[i].1) ∧ W.cell? ⟨fg, i * 3 + 1, none⟩ = some (.int .i64 F.locs[i].2.1) ∧ W.cell? ⟨fg, i * 3 + 2, none⟩ = some (.int .i64 F.locs[i].2.2) := by
  have hl : i < F.locs.length := by rw [h.ll]; exact hi
  have e : (vcs F.locs).length = 48 := by rw [vcs_length, h.ll]
  obtain ⟨a, b, c⟩ := vcs_get F.locs i hl
  refine ⟨hl, h.blk.c _ _ ?_, h.blk.c _ _ ?_, h.blk.c _ _ ?_⟩
  · rw [List.getElem?_append_left (by omega)]; exact a
  · rw [List.getElem?_append_left (by omega)]; exact b
  · rw [List.getElem?_append_left (by omega)]; exact c
theorem FrAt.c48 (h : FrAt W base fg gm nm A cap F) : W.cell? ⟨fg, 48, none⟩ = some (.int .i64 F.many) := h.cx (j := 0) rfl
theorem FrAt.c49 (h : FrAt W base fg gm nm A cap F) : W.cell? ⟨fg, 49, none⟩ = some (.slice A F.stk.length cap) := h.cx (j := 1) rfl
theorem FrAt.c50 (h : FrAt W base fg gm nm A cap F) : W.cell? ⟨fg, 50, none⟩ = some (.int .i64 F.place) := h.cx (j := 2) rfl
theorem FrAt.c51 (h : FrAt W base fg gm nm A cap F) : W.cell? ⟨fg, 51, none⟩ = some (.map (some gm)) := h.cx (j := 3) rfl
theorem FrAt.touch (h : FrAt W base fg gm nm A cap F) {S : Nat → Prop} {W' : World} (t : Touch S W W') (hs : ∀ b, FF fg gm A b → ¬ S b) : FrAt W' base fg gm nm A cap F := by
  obtain ⟨D, m1, m2, m3⟩ := h.mp
  exact { h with blk := h.blk.touch t (hs _ (.inl rfl)), row := t.row h.row (fun g o c e => hs _ (.inr (.inr ⟨_, by injection e, rfl⟩))), bs := Nat.le_trans h.bs t.size, mp := ⟨D, ownsMap_touch t m1 (hs _ (.inr (.inl rfl))), m2, m3⟩ }
theorem FrAt.below (h : FrAt W base fg gm nm A cap F) {W' : World} (hb : Below W.heap.size W W') : FrAt W' base fg gm nm A cap F :=
  h.touch (Touch.of_below hb (Nat.le_refl _) (fun _ => False)) (fun _ _ e => e)
theorem FrAt.rowBase (h : FrAt W base fg gm nm A cap F) : ∀ a : Addr, A = some a → base ≤ a.block ∧ a.block < W.heap.size := by
  intro a e
  subst e
  exact h.row.lt a.block rfl
theorem FrAt.foot (h : FrAt W base fg gm nm A cap F) : ∀ k, FF fg gm A k → k < W.heap.size := by
  rintro k (rfl | rfl | ⟨a, e, rfl⟩)
  · exact h.blk.l
  · obtain ⟨D, m, -⟩ := h.mp; exact m.lt
  · exact (h.rowBase a e).2

theorem wf_of_i64 {z : Int} (h : I64 z) : (Lit.int .i64 z).wf = true := by
  have h1 := h.1
  have h2 := h.2
  simp only [Lit.wf, IntKind.min, IntKind.max, IntKind.signed, IntKind.bits, Bool.and_eq_true, decide_eq_true_eq]
  constructor
  · simpa using h1
  · simpa using (show z ≤ 9223372036854775807 from h2)
/-- The map's key. -/
theorem key_int {k : Int} (hk : I64 k) : keyOf Try.prog 3 (.int .i64 k) = some (.int .i64 k) := by
  exact Maps.keyOf_int_mk Try.underlying3 (wf_of_i64 hk)

theorem FrAt.stk (h : FrAt W base fg gm nm A cap F) {i : Nat} (hi : i < F.stk.length) : ∃ g, A = some ⟨g, 0, none⟩ ∧ base ≤ g ∧ g < W.heap.size ∧ F.stk.length ≤ cap ∧
    W.cell? ⟨g, i * 3, none⟩ = some (.int .u8 F.stk[i].1) ∧ W.cell? ⟨g, i * 3 + 1, none⟩ = some (.int .i64 F.stk[i].2.1) ∧ W.cell? ⟨g, i * 3 + 2, none⟩ = some (.int .i64 F.stk[i].2.2) := by
  have hr := h.row
  rcases hr.2 with ⟨e, e2⟩ | ⟨g, c, cur, e, hb, hc, hcap, -⟩
  · omega
  · injection e with e1 e2 e3
    subst e1
    obtain ⟨a1, a2, a3⟩ := vcs_get F.stk i hi
    refine ⟨g, rfl, hb, (Array.getElem?_eq_some_iff.1 hc).1, by omega, ?_, ?_, ?_⟩
    · rw [hr.cellAt _ (by omega)]; exact a1
    · rw [hr.cellAt _ (by omega)]; exact a2
    · rw [hr.cellAt _ (by omega)]; exact a3
end
/-! none -/
theorem none_at (fg gm : Nat) (w : World) (hl : fg < w.heap.size) (hc : w.cell? ⟨fg, 51, none⟩ = some (.map (some gm))) :
    Calls Try.prog 32 #[.pointer (some ⟨fg, 0, none⟩)] w fun e w' => e = .returned (.bool false) ∧ w' = w := by
  have hq := fun w => run_eql_map_nil (P := Try.prog) w 81 3 3 (some gm) Try.underlying81
  go_enter Try.func32, Try.ntmps32
  go_wp2_with fail
  go_ret
  exact ⟨rfl, rfl⟩
def Unmade (w : World) (p : Option Addr) : Prop := p = none ∨ ∃ fg, p = some ⟨fg, 0, none⟩ ∧ fg < w.heap.size ∧ w.cell? ⟨fg, 51, none⟩ = some (.map none)
theorem none_un (p : Option Addr) (w : World) (h : Unmade w p) :
    Calls Try.prog 32 #[.pointer p] w fun e w' => e = .returned (.bool true) ∧ w' = w := by
  rcases h with rfl | ⟨fg, rfl, hl, hc⟩
  · go_enter Try.func32, Try.ntmps32
    go_wp2_with fail
    go_ret
    exact ⟨rfl, rfl⟩
  · have hq := fun w => run_eql_map_nil (P := Try.prog) w 81 3 3 none Try.underlying81
    go_enter Try.func32, Try.ntmps32
    go_wp2_with fail
    go_ret
    exact ⟨rfl, rfl⟩
/-! kind -/
def kindB (k : Int) : Bool := decide (1 ≤ k ∧ k ≤ 3)
theorem kind_any (k : Int) (w : World) (h0 : 0 ≤ k) (h1 : k ≤ 255) : Calls Try.prog 30 #[.int .u8 k] w fun e w' => e = .returned (.bool (kindB k)) ∧ w' = w := by
  by_cases h2 : 1 ≤ k
  · by_cases h3 : k ≤ 3
    · have HS : Hid (kindB k = true) := Lib.hid (decide_eq_true ⟨h2, h3⟩)
      go_enter Try.func30, Try.ntmps30
      go_wp2_with fail
      go_ret
      exact ⟨by rw [HS.out]; simp, rfl⟩
    · have HS : Hid (kindB k = false) := Lib.hid (decide_eq_false (fun h => h3 h.2))
      go_enter Try.func30, Try.ntmps30
      go_wp2_with fail
      go_ret
      exact ⟨by rw [HS.out]; simp, rfl⟩
  · have HS : Hid (kindB k = false) := Lib.hid (decide_eq_false (fun h => h2 h.1))
    have h3 : decide (1 ≤ k) = false := decide_eq_false h2
    go_enter Try.func30, Try.ntmps30
    go_wp2_with fail
    go_ret
    exact ⟨by rw [HS.out]; rfl, rfl⟩
section
variable {W : World} {base fg gm nm : Nat} {A : Option Addr} {cap : Nat} {F : Fr}
theorem size_at (h : FrAt W base fg gm nm A cap F) :
    Calls Try.prog 31 #[.pointer (some ⟨fg, 0, none⟩)] W fun e w' => e = .returned (.int .i64 ((F.many : Int) + (F.stk.length : Int))) ∧ ∃ k, w' = W.drewN k := by
  have hc := h.c51
  have hc1 := h.c48
  have hc2 := h.c49
  have hl := h.blk.l
  have hm := h.ml
  have hs := h.sl
  have HN := Lib.hid (none_at fg gm W hl hc)
  generalize F.many = m at *
  generalize F.stk.length = n at *
  have m1 : (m : Int) ≤ 16 := by omega
  have n1 : (n : Int) ≤ 256 := by omega
  have s1 : IntKind.i64.wrap ((m : Int) + (n : Int)) = (m : Int) + (n : Int) := IntWalk.i64_in _ (by omega)
  clear h
  go_enter Try.func31, Try.ntmps31
  go_wp2_with fail
  refine HN.out.mono ?_
  rintro e w1 ⟨rfl, rfl⟩
  go_wp2_with fail
  go_quiet (fail)
  go_wp2_with fail
  go_ret
  exact ⟨rfl, _, rfl⟩
theorem place_at (h : FrAt W base fg gm nm A cap F) :
    Calls Try.prog 23 #[.pointer (some ⟨fg, 0, none⟩)] W fun e w' => e = .returned (.int .i64 F.place) ∧ w' = W := by
  have hc := h.c51
  have hc1 := h.c50
  have hl := h.blk.l
  have HN := Lib.hid (none_at fg gm W hl hc)
  generalize F.place = m at *
  clear h
  go_enter Try.func23, Try.ntmps23
  go_wp2_with fail
  refine HN.out.mono ?_
  rintro e w1 ⟨rfl, rfl⟩
  go_wp2_with fail
  go_ret
  exact ⟨rfl, rfl⟩
theorem go_at (h : FrAt W base fg gm nm A cap F) (p : Int) :
    Calls Try.prog 24 #[.pointer (some ⟨fg, 0, none⟩), .int .i64 p] W fun e w' => e = .returned (.tuple #[]) ∧ w' = W.setCell ⟨fg, 50, none⟩ (.int .i64 p) := by
  have hc := h.c51
  have hc1 := h.c50
  have hf := h.blk.f 50
  have hl := h.blk.l
  have HN := Lib.hid (none_at fg gm W hl hc)
  clear h
  go_enter Try.func24, Try.ntmps24
  go_wp2_with fail
  refine HN.out.mono ?_
  rintro e w1 ⟨rfl, rfl⟩
  go_wp2_with fail
  go_end0
  exact ⟨rfl, rfl⟩
end
end Go.Proofs.Ytkhgpeejmbfmjaa
/- Values compared. -/
namespace Go.Proofs.Ytkhgpeejmbfmjaa
open Go.RowKit
set_option linter.unusedSimpArgs false
theorem eqv_in (a b c a' b' c' : Int) (w : World) : (Op.equalIn 10000 29 (.agg #[.int .u8 a, .int .i64 b, .int .i64 c]) (.agg #[.int .u8 a', .int .i64 b', .int .i64 c'])).run Try.prog w = .ok (decide ((a, b, c) = (a', b', c'))) w := by
  simp [go_sem]
  split
  · split
    · split <;> simp_all
    · simp_all
  · simp_all
theorem val_eql (a b c a' b' c' : Int) (w : World) (q : Bool) (h : decide ((a, b, c) = (a', b', c')) = q) : (binOp .eql 29 (.agg #[.int .u8 a, .int .i64 b, .int .i64 c]) (.agg #[.int .u8 a', .int .i64 b', .int .i64 c'])).run Try.prog w = .ok (.bool q) w := by
  rw [run_eql_struct, eqv_in, h]
  rfl
theorem val_neq (a b c a' b' c' : Int) (w : World) (q : Bool) (h : decide ((a, b, c) = (a', b', c')) = q) : (binOp .neq 29 (.agg #[.int .u8 a, .int .i64 b, .int .i64 c]) (.agg #[.int .u8 a', .int .i64 b', .int .i64 c'])).run Try.prog w = .ok (.bool (!q)) w := by
  rw [run_neq_struct, eqv_in, h]
  rfl
end Go.Proofs.Ytkhgpeejmbfmjaa
/- Outcomes and certificates compared. -/
namespace Go.Proofs.Ytkhgpeejmbfmjaa
open Go.RowKit
set_option linter.unusedSimpArgs false
set_option maxRecDepth 100000
theorem eqo_in (a b c d a' b' c' d' : Int) (w : World) : (Op.equalIn 10000 31 (.agg #[.int .i64 a, .int .u8 b, .int .i64 c, .int .i64 d]) (.agg #[.int .i64 a', .int .u8 b', .int .i64 c', .int .i64 d'])).run Try.prog w = .ok (decide ((a, b, c, d) = (a', b', c', d'))) w := by
  simp [go_sem]
  repeat' (first | (simp_all; done) | split)
theorem out_eql (a b c d a' b' c' d' : Int) (w : World) (q : Bool) (h : decide ((a, b, c, d) = (a', b', c', d')) = q) : (binOp .eql 31 (.agg #[.int .i64 a, .int .u8 b, .int .i64 c, .int .i64 d]) (.agg #[.int .i64 a', .int .u8 b', .int .i64 c', .int .i64 d'])).run Try.prog w = .ok (.bool q) w := by
  rw [run_eql_struct, eqo_in, h]
  rfl
theorem out_neq (a b c d a' b' c' d' : Int) (w : World) (q : Bool) (h : decide ((a, b, c, d) = (a', b', c', d')) = q) : (binOp .neq 31 (.agg #[.int .i64 a, .int .u8 b, .int .i64 c, .int .i64 d]) (.agg #[.int .i64 a', .int .u8 b', .int .i64 c', .int .i64 d'])).run Try.prog w = .ok (.bool (!q)) w := by
  rw [run_neq_struct, eqo_in, h]
  rfl
theorem eqc_in (a b c a' b' c' : Int) (w : World) : (Op.equalIn 10000 33 (.agg #[.int .i64 a, .int .i64 b, .int .i64 c]) (.agg #[.int .i64 a', .int .i64 b', .int .i64 c'])).run Try.prog w = .ok (decide ((a, b, c) = (a', b', c'))) w := by
  simp [go_sem]
  repeat' (first | (simp_all; done) | split)
theorem cert_eql (a b c a' b' c' : Int) (w : World) (q : Bool) (h : decide ((a, b, c) = (a', b', c')) = q) : (binOp .eql 33 (.agg #[.int .i64 a, .int .i64 b, .int .i64 c]) (.agg #[.int .i64 a', .int .i64 b', .int .i64 c'])).run Try.prog w = .ok (.bool q) w := by
  rw [run_eql_struct, eqc_in, h]
  rfl
theorem cert_neq (a b c a' b' c' : Int) (w : World) (q : Bool) (h : decide ((a, b, c) = (a', b', c')) = q) : (binOp .neq 33 (.agg #[.int .i64 a, .int .i64 b, .int .i64 c]) (.agg #[.int .i64 a', .int .i64 b', .int .i64 c'])).run Try.prog w = .ok (.bool (!q)) w := by
  rw [run_neq_struct, eqc_in, h]
  rfl
#print axioms out_eql
#print axioms cert_neq
end Go.Proofs.Ytkhgpeejmbfmjaa
