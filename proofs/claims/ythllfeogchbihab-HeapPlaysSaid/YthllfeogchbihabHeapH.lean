/- Heaps (package heap): one contract for Make; a heap that was made behind a world. -/
import Derived.Test.YthllfeogchbihabHeapG
namespace Go.Proofs.Ythllfeogchbihab
open Go.RowKit Go.Shelf
set_option linter.unusedSimpArgs false
set_option linter.unusedVariables false

/-- Is there room for n words? -/
def fitsB (room : Nat) (arrs : List (List Int)) (n : Int) : Bool := decide (0 ≤ n ∧ n ≤ 1024 ∧ (arrs.flatten.length : Int) + n ≤ room)
/-- What Make answers, and what the arrays are then. -/
def mkRef (room : Nat) (arrs : List (List Int)) (n : Int) : Int := if fitsB room arrs n then arrs.length + 1 else 0
def mkErr (room : Nat) (arrs : List (List Int)) (n : Int) : Int := if n < 0 ∨ 1024 < n then 2 else if fitsB room arrs n then 0 else 4
def mkArrs (room : Nat) (arrs : List (List Int)) (n : Int) : List (List Int) := if fitsB room arrs n then arrs ++ [List.replicate n.toNat 0] else arrs
theorem mkErr_zero (room : Nat) (arrs : List (List Int)) (n : Int) : mkErr room arrs n = 0 ↔ fitsB room arrs n = true := by
  unfold mkErr
  by_cases h : n < 0 ∨ 1024 < n
  · have : fitsB room arrs n = false := decide_eq_false (by omega)
    simp [h, this]
  · rw [if_neg h]
    split <;> simp_all

/-- The blocks that Make may change. -/
def FM (gh : Nat) (A : Option Addr) : Nat → Prop := fun k => k = gh ∨ ∃ a : Addr, A = some a ∧ k = a.block

theorem make_at {W : World} {gh gw base room : Nat} {arrs : List (List Int)} {A : Option Addr} {cap : Nat} (h : HeapAt W gh gw base room arrs A cap) (n : Int) (hl : arrs.length < 5000) :
    Calls Try.prog 7 #[.pointer (some ⟨gh, 0, none⟩), .int .i64 n] W fun e W' => ∃ A' cap', e = .returned (.tuple #[.int .i64 (mkRef room arrs n), .int .i64 (mkErr room arrs n)]) ∧ Touch (FM gh A) W W' ∧
      (A' = A ∨ ∀ a : Addr, A' = some a → W.heap.size ≤ a.block) ∧ HeapAt W' gh gw base room (mkArrs room arrs n) A' cap' := by
  by_cases h1 : n < 0 ∨ 1024 < n
  · refine (make_arg h n h1).mono ?_
    rintro e W' ⟨rfl, hb⟩
    have hf : fitsB room arrs n = false := decide_eq_false (by omega)
    refine ⟨A, cap, by simp [mkRef, mkErr, hf, h1], Touch.of_below hb (Nat.le_refl _) _, .inl rfl, ?_⟩
    unfold mkArrs
    rw [hf]
    exact h.below hb
  · obtain ⟨k, rfl⟩ := Int.eq_ofNat_of_zero_le (show 0 ≤ n by omega)
    by_cases h2 : room < arrs.flatten.length + k
    · refine (make_full h k (by omega) h2).mono ?_
      rintro e W' ⟨rfl, hb⟩
      have hf : fitsB room arrs (k : Int) = false := decide_eq_false (by omega)
      refine ⟨A, cap, by simp only [mkRef, mkErr, hf, if_neg h1]; rfl, Touch.of_below hb (Nat.le_refl _) _, .inl rfl, ?_⟩
      unfold mkArrs
      rw [hf]
      exact h.below hb
    · refine (make_ok h k (by omega) (by omega) hl).mono ?_
      rintro e W' ⟨A', cap', rfl, ht, ha, hh⟩
      have hf : fitsB room arrs (k : Int) = true := decide_eq_true (by omega)
      refine ⟨A', cap', by simp only [mkRef, mkErr, hf, if_neg h1]; rfl, ht, ha, ?_⟩
      unfold mkArrs
      rw [hf]
      exact hh

theorem HeapAt.rowBase {W : World} {gh gw base room : Nat} {arrs : List (List Int)} {A : Option Addr} {cap : Nat} (h : HeapAt W gh gw base room arrs A cap) : ∀ a : Addr, A = some a → base ≤ a.block ∧ a.block < W.heap.size := by
  intro a e
  subst e
  exact h.row.lt a.block rfl
theorem HeapAt.foot {W : World} {gh gw base room : Nat} {arrs : List (List Int)} {A : Option Addr} {cap : Nat} (h : HeapAt W gh gw base room arrs A cap) : ∀ k, FH gh gw A k → k < W.heap.size := by
  rintro k (rfl | rfl | ⟨a, e, rfl⟩)
  · exact h.hb.l
  · exact h.hw.l
  · exact (h.rowBase a e).2

/-- A heap that was made behind the world w. -/
structure HO (w W : World) (gh gw room : Nat) (arrs : List (List Int)) : Prop where
  ex : ∃ base A cap, HeapAt W gh gw base room arrs A cap
  bw : Below w.heap.size w W
  g1 : w.heap.size ≤ gh
  g2 : w.heap.size ≤ gw

theorem ho_new (n : Nat) (w : World) (h2 : n ≤ 1024) : Calls Try.prog 12 #[.int .i64 n] w fun e W => ∃ gh gw, e = .returned (.tuple #[.pointer (some ⟨gh, 0, none⟩), .int .i64 0]) ∧ HO w W gh gw n [] := by
  refine (new_yes n w h2).mono ?_
  rintro e W ⟨gh, gw, rfl, hb, h3, h4, -, h5⟩
  exact ⟨gh, gw, rfl, ⟨_, _, _, h5⟩, hb, h4, h3⟩
section
variable {w W : World} {gh gw room : Nat} {arrs : List (List Int)}
theorem HO.below (h : HO w W gh gw room arrs) {W' : World} (hb : Below W.heap.size W W') : HO w W' gh gw room arrs := by
  obtain ⟨⟨base, A, cap, h0⟩, h1, h2, h3⟩ := h
  exact ⟨⟨base, A, cap, h0.below hb⟩, below_next h1 hb, h2, h3⟩
theorem ho_make (h : HO w W gh gw room arrs) (n : Int) (hl : arrs.length < 5000) :
    Calls Try.prog 7 #[.pointer (some ⟨gh, 0, none⟩), .int .i64 n] W fun e W' => e = .returned (.tuple #[.int .i64 (mkRef room arrs n), .int .i64 (mkErr room arrs n)]) ∧ HO w W' gh gw room (mkArrs room arrs n) := by
  obtain ⟨⟨base, A, cap, h0⟩, h1, h2, h3⟩ := h
  refine (make_at h0 n hl).mono ?_
  rintro e W' ⟨A', cap', rfl, ht, -, hh⟩
  refine ⟨rfl, ⟨_, _, _, hh⟩, h1.trans (ht.below h1.size ?_), h2, h3⟩
  rintro k (rfl | ⟨a, e, rfl⟩)
  · exact h2
  · have := h0.rowBase a e; have := h0.b1; omega
theorem ho_put_yes (h : HO w W gh gw room arrs) {k j : Nat} (v : Int) (hk : k < arrs.length) (hj : j < arrs[k].length) :
    Calls Try.prog 10 #[.pointer (some ⟨gh, 0, none⟩), .int .i64 ((k : Int) + 1), .int .i64 j, .int .i64 v] W fun e W' => e = .returned (.bool true) ∧ HO w W' gh gw room (arrs.set k (arrs[k].set j v)) := by
  obtain ⟨⟨base, A, cap, h0⟩, h1, h2, h3⟩ := h
  refine (put_yes h0 v hk hj).mono ?_
  rintro e W' ⟨rfl, ht, hh⟩
  refine ⟨rfl, ⟨_, _, _, hh⟩, h1.trans (ht.below h1.size ?_), h2, h3⟩
  rintro k rfl
  exact h3
theorem ho_at_yes (h : HO w W gh gw room arrs) {k j : Nat} (hk : k < arrs.length) (hj : j < arrs[k].length) :
    Calls Try.prog 8 #[.pointer (some ⟨gh, 0, none⟩), .int .i64 ((k : Int) + 1), .int .i64 j] W fun e W' => e = .returned (.tuple #[.int .i64 arrs[k][j], .bool true]) ∧ HO w W' gh gw room arrs := by
  obtain ⟨base, A, cap, h0⟩ := h.ex
  refine (at_yes h0 hk hj).mono ?_
  rintro e W' ⟨rfl, hb⟩
  exact ⟨rfl, h.below hb⟩
theorem ho_at_no (h : HO w W gh gw room arrs) {ref i : Int} (hp : plA arrs ref i = none) :
    Calls Try.prog 8 #[.pointer (some ⟨gh, 0, none⟩), .int .i64 ref, .int .i64 i] W fun e W' => e = .returned (.tuple #[.int .i64 0, .bool false]) ∧ HO w W' gh gw room arrs := by
  obtain ⟨base, A, cap, h0⟩ := h.ex
  refine (at_no h0 hp).mono ?_
  rintro e W' ⟨rfl, hb⟩
  exact ⟨rfl, h.below hb⟩
theorem ho_len (h : HO w W gh gw room arrs) (ref : Int) :
    Calls Try.prog 9 #[.pointer (some ⟨gh, 0, none⟩), .int .i64 ref] W fun e W' =>
      e = .returned (.tuple #[.int .i64 (if 1 ≤ ref ∧ ref ≤ arrs.length then ((arrs[(ref - 1).toNat]?.getD []).length : Int) else 0), .bool (decide (0 ≤ ref ∧ ref ≤ arrs.length))]) ∧ HO w W' gh gw room arrs := by
  obtain ⟨base, A, cap, h0⟩ := h.ex
  refine (len_at h0 ref).mono ?_
  rintro e W' ⟨rfl, hb⟩
  exact ⟨rfl, h.below hb⟩
theorem ho_used (h : HO w W gh gw room arrs) :
    Calls Try.prog 11 #[.pointer (some ⟨gh, 0, none⟩)] W fun e W' => e = .returned (.int .i64 arrs.flatten.length) ∧ HO w W' gh gw room arrs := by
  obtain ⟨base, A, cap, h0⟩ := h.ex
  refine (used_at h0).mono ?_
  rintro e W' ⟨rfl, hb⟩
  exact ⟨rfl, h.below hb⟩
end

theorem awake_ok (w : World) : Calls Try.prog 19 #[] w fun e w' => e = .returned (.bool true) ∧ Below w.heap.size w w' := by
  have n0 : Calls Try.prog 12 #[.int .i64 3] w fun e W => ∃ gh gw, e = .returned (.tuple #[.pointer (some ⟨gh, 0, none⟩), .int .i64 0]) ∧ HO w W gh gw 3 [] := ho_new 3 w (by omega)
  have N0 := Lib.hid n0
  clear n0
  go_enter Try.func19, Try.ntmps19
  go_wp2_with fail
  refine N0.out.mono ?_
  rintro e w1 ⟨gh, gw, rfl, h1⟩
  have H1 := Lib.hid h1
  clear h1 N0
  go_wp2_with fail
  refine (new_no 1025 w1 (.inr (by decide))).mono ?_
  rintro e w' ⟨rfl, rfl⟩
  go_wp2_with fail
  have m1 : Calls Try.prog 7 #[.pointer (some ⟨gh, 0, none⟩), .int .i64 2] w' fun e W' => e = .returned (.tuple #[.int .i64 1, .int .i64 0]) ∧ HO w W' gh gw 3 [[0, 0]] := ho_make H1.out 2 (by decide)
  refine m1.mono ?_
  clear m1 H1
  rintro e w2 ⟨rfl, h2⟩
  have H2 := Lib.hid h2
  clear h2
  go_wp2_with fail
  have m2 : Calls Try.prog 7 #[.pointer (some ⟨gh, 0, none⟩), .int .i64 2] w2 fun e W' => e = .returned (.tuple #[.int .i64 0, .int .i64 4]) ∧ HO w W' gh gw 3 [[0, 0]] := ho_make H2.out 2 (by decide)
  refine m2.mono ?_
  clear m2 H2
  rintro e w3 ⟨rfl, h3⟩
  have H3 := Lib.hid h3
  clear h3
  go_wp2_with fail
  have m3 : Calls Try.prog 7 #[.pointer (some ⟨gh, 0, none⟩), .int .i64 0] w3 fun e W' => e = .returned (.tuple #[.int .i64 2, .int .i64 0]) ∧ HO w W' gh gw 3 [[0, 0], []] := ho_make H3.out 0 (by decide)
  refine m3.mono ?_
  clear m3 H3
  rintro e w4 ⟨rfl, h4⟩
  have H4 := Lib.hid h4
  clear h4
  go_wp2_with fail
  have m4 : Calls Try.prog 7 #[.pointer (some ⟨gh, 0, none⟩), .int .i64 1] w4 fun e W' => e = .returned (.tuple #[.int .i64 3, .int .i64 0]) ∧ HO w W' gh gw 3 [[0, 0], [], [0]] := ho_make H4.out 1 (by decide)
  refine m4.mono ?_
  clear m4 H4
  rintro e w5 ⟨rfl, h5⟩
  have H5 := Lib.hid h5
  clear h5
  go_wp2_with fail
  have p1 : Calls Try.prog 10 #[.pointer (some ⟨gh, 0, none⟩), .int .i64 1, .int .i64 1, .int .i64 7] w5 fun e W' => e = .returned (.bool true) ∧ HO w W' gh gw 3 [[0, 7], [], [0]] := ho_put_yes H5.out (k := 0) (j := 1) 7 (by decide) (by decide)
  refine p1.mono ?_
  clear p1 H5
  rintro e w6 ⟨rfl, h6⟩
  have H6 := Lib.hid h6
  clear h6
  go_wp2_with fail
  have a1 : Calls Try.prog 8 #[.pointer (some ⟨gh, 0, none⟩), .int .i64 1, .int .i64 1] w6 fun e W' => e = .returned (.tuple #[.int .i64 7, .bool true]) ∧ HO w W' gh gw 3 [[0, 7], [], [0]] := ho_at_yes H6.out (k := 0) (j := 1) (by decide) (by decide)
  refine a1.mono ?_
  clear a1 H6
  rintro e w7 ⟨rfl, h7⟩
  have H7 := Lib.hid h7
  clear h7
  go_wp2_with fail
  have a2 : Calls Try.prog 8 #[.pointer (some ⟨gh, 0, none⟩), .int .i64 1, .int .i64 2] w7 fun e W' => e = .returned (.tuple #[.int .i64 0, .bool false]) ∧ HO w W' gh gw 3 [[0, 7], [], [0]] := ho_at_no H7.out (by decide)
  refine a2.mono ?_
  clear a2 H7
  rintro e w8 ⟨rfl, h8⟩
  have H8 := Lib.hid h8
  clear h8
  go_wp2_with fail
  have l1 : Calls Try.prog 9 #[.pointer (some ⟨gh, 0, none⟩), .int .i64 0] w8 fun e W' => e = .returned (.tuple #[.int .i64 0, .bool true]) ∧ HO w W' gh gw 3 [[0, 7], [], [0]] := ho_len H8.out 0
  refine l1.mono ?_
  clear l1 H8
  rintro e w9 ⟨rfl, h9⟩
  have H9 := Lib.hid h9
  clear h9
  go_wp2_with fail
  have u1 : Calls Try.prog 11 #[.pointer (some ⟨gh, 0, none⟩)] w9 fun e W' => e = .returned (.int .i64 3) ∧ HO w W' gh gw 3 [[0, 7], [], [0]] := ho_used H9.out
  refine u1.mono ?_
  clear u1 H9
  rintro e w10 ⟨rfl, h10⟩
  have H10 := Lib.hid h10
  clear h10
  go_wp2_with fail
  go_ret
  exact ⟨rfl, H10.out.bw⟩

end Go.Proofs.Ythllfeogchbihab
