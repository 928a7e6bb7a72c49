/- Parts of the walk, joined. -/
import Derived.Test.YtkhgpeejmbfmjaaProg
import Derived.WalkKit
import Derived.WalkLawsBesides
import Derived.KernelRfl
import Derived.Lib.Hide
import Derived.Handy
import Derived.Laws.ComplexArith
import Derived.Deep.RegionHeld3
import Derived.Deep.QuietTactic
import Derived.BigQuiet
import Derived.Test.YtkhgpeejmbfmjaaPart01
/- What the pairs' functions of package gauss come to, walked over the program: sums, differences, products and conjugates by complex numbers, exact; for all parts. -/
namespace Go.Proofs.Ytkhgpeejmbfmjaa
open Go.RowKit
set_option linter.unusedSimpArgs false
set_option linter.unusedVariables false
set_option maxRecDepth 100000

def mayB (a b : Int) : Bool := decide (-1048576 ≤ a ∧ a ≤ 1048576 ∧ -1048576 ≤ b ∧ b ≤ 1048576)

theorem ret_bool {a b : Bool} (h : a = b) : Ending.returned (.bool a) = .returned (.bool b) := by rw [h]

theorem may_any (a b : Int) (w : World) : Calls Try.prog 63 #[.agg #[.int .i64 a, .int .i64 b]] w fun e w' => e = .returned (.bool (mayB a b)) ∧ Below w.heap.size w w' := by
  have i0 : ∀ w, (Instr.index 100 (.agg #[.int .i64 a, .int .i64 b]) (.int .i64 0)).run Try.prog w = .ok (.int .i64 a) w := fun _ => by kernel_rfl
  have i1 : ∀ w, (Instr.index 100 (.agg #[.int .i64 a, .int .i64 b]) (.int .i64 1)).run Try.prog w = .ok (.int .i64 b) w := fun _ => by kernel_rfl
  go_enter Try.func63, Try.ntmps63
  go_wp2
  go_rounds 3
  all_goals
    go_ret
    refine ⟨ret_bool ?_, by go_grown⟩
    first | (symm; rw [mayB, decide_eq_true_iff]; omega) | (symm; rw [mayB, decide_eq_false_iff_not]; omega)

theorem number_any (a b : Int) (w : World) (ha : a.natAbs < 2 ^ 53) (hb : b.natAbs < 2 ^ 53) : Calls Try.prog 81 #[.agg #[.int .i64 a, .int .i64 b]] w fun e w' => ∃ x y, e = .returned (.complex .f64 x y) ∧ Rep x a ∧ Rep y b ∧ Below w.heap.size w w' := by
  go_enter Try.func81, Try.ntmps81
  go_wp2
  go_ret
  exact ⟨_, _, rfl, rep_int a ha, rep_int b hb, by go_grown⟩

theorem i64_in {a : Int} (h : a.natAbs < 2 ^ 53) : IntKind.i64.min ≤ a ∧ a ≤ IntKind.i64.max := by
  simp only [IntKind.min, IntKind.max, IntKind.signed, IntKind.bits, if_true]
  omega

theorem rep_back {x : Nat} {a : Int} (h : Rep x a) (ha : a.natAbs < 2 ^ 53) : floatToIntVal .f64 x .i64 = some a := by
  unfold floatToIntVal
  rw [rep_toInt h]
  simp only
  rw [if_pos (i64_in ha)]

theorem pair_any (x y : Nat) (a b : Int) (w : World) (hx : Rep x a) (hy : Rep y b) (ha : a.natAbs < 2 ^ 53) (hb : b.natAbs < 2 ^ 53) :
    Calls Try.prog 80 #[.complex .f64 x y] w fun e w' => e = .returned (.agg #[.int .i64 a, .int .i64 b]) ∧ Below w.heap.size w w' := by
  have cx := fun w => run_convert_float_int (P := Try.prog) w 132 2 .f64 .i64 x a (by kernel_rfl) Try.underlying2 (rep_back hx ha)
  have cy := fun w => run_convert_float_int (P := Try.prog) w 132 2 .f64 .i64 y b (by kernel_rfl) Try.underlying2 (rep_back hy hb)
  clear hx hy ha hb
  go_enter Try.func80, Try.ntmps80
  go_wp2
  refine bodyPost_ret (v := .agg #[.int .i64 a, .int .i64 b]) (by simp [results, Try.results80, go_sem]) rfl ⟨rfl, by go_grown⟩

/-- A function value's contract: of the parts it gives such parts. -/
def DoSays (f : Nat) (re im : Int → Int → Int → Int → Int) : Prop :=
  ∀ (x1 y1 x2 y2 : Nat) (a b c d : Int) (w : World), Rep x1 a → Rep y1 b → Rep x2 c → Rep y2 d → mayB a b = true → mayB c d = true →
    Calls Try.prog f #[.complex .f64 x1 y1, .complex .f64 x2 y2] w fun e w' => ∃ x y, e = .returned (.complex .f64 x y) ∧ Rep x (re a b c d) ∧ Rep y (im a b c d) ∧ Below w.heap.size w w'

theorem mayB_iff {a b : Int} : mayB a b = true ↔ (-1048576 ≤ a ∧ a ≤ 1048576 ∧ -1048576 ≤ b ∧ b ≤ 1048576) := by
  unfold mayB; exact decide_eq_true_iff

theorem add_do : DoSays 77 (fun a _ c _ => a + c) (fun _ b _ d => b + d) := by
  intro x1 y1 x2 y2 a b c d w h1 h2 h3 h4 m1 m2
  rw [mayB_iff] at m1 m2
  obtain ⟨r, e1, g1⟩ := rep_add h1 h3 (by omega)
  obtain ⟨s, e2, g2⟩ := rep_add h2 h4 (by omega)
  have k := fun w => run_complex_sum (P := Try.prog) w .add (.inl rfl) 131 .f64 x1 y1 x2 y2 r s (by
    show (Ieee.double.add x1 x2).bind (fun re => (Ieee.double.add y1 y2).bind fun im => some (re, im)) = some (r, s)
    rw [e1, e2]; rfl)
  have G1 := Lib.hid g1
  have G2 := Lib.hid g2
  clear h1 h2 h3 h4 m1 m2 e1 e2 g1 g2
  go_enter Try.func77, Try.ntmps77
  go_wp2
  go_ret
  exact ⟨r, s, rfl, G1.out, G2.out, Below.refl _ _⟩

theorem mul_bd {a b : Int} (ha : -1048576 ≤ a) (ha' : a ≤ 1048576) (hb : -1048576 ≤ b) (hb' : b ≤ 1048576) : -1099511627776 ≤ a * b ∧ a * b ≤ 1099511627776 := by
  have h1 : 0 ≤ (1048576 - a) * (1048576 - b) := Int.mul_nonneg (by omega) (by omega)
  have h2 : 0 ≤ (1048576 + a) * (1048576 + b) := Int.mul_nonneg (by omega) (by omega)
  have h3 : 0 ≤ (1048576 - a) * (1048576 + b) := Int.mul_nonneg (by omega) (by omega)
  have h4 : 0 ≤ (1048576 + a) * (1048576 - b) := Int.mul_nonneg (by omega) (by omega)
  simp only [Int.sub_mul, Int.add_mul, Int.mul_sub, Int.mul_add] at h1 h2 h3 h4
  omega

theorem mul_do : DoSays 78 (fun a b c d => a * c - b * d) (fun a b c d => a * d + b * c) := by
  intro x1 y1 x2 y2 a b c d w h1 h2 h3 h4 m1 m2
  rw [mayB_iff] at m1 m2
  obtain ⟨m11, m12, m13, m14⟩ := m1
  obtain ⟨m21, m22, m23, m24⟩ := m2
  have b1 := mul_bd m11 m12 m21 m22
  have b2 := mul_bd m13 m14 m23 m24
  have b3 := mul_bd m11 m12 m23 m24
  have b4 := mul_bd m13 m14 m21 m22
  obtain ⟨ac, e1, g1⟩ := rep_mul h1 h3 (by omega)
  obtain ⟨bd, e2, g2⟩ := rep_mul h2 h4 (by omega)
  obtain ⟨r, e3, g3⟩ := rep_sub g1 g2 (by omega)
  obtain ⟨ad, e4, g4⟩ := rep_mul h1 h4 (by omega)
  obtain ⟨bc, e5, g5⟩ := rep_mul h2 h3 (by omega)
  obtain ⟨s, e6, g6⟩ := rep_add g4 g5 (by omega)
  have k := fun w => run_complex_mul (P := Try.prog) w 131 x1 y1 x2 y2 r s (by
    show (Ieee.double.mul x1 x2).bind (fun ac => (Ieee.double.mul y1 y2).bind fun bd => (Ieee.double.sub ac bd).bind fun re =>
      (Ieee.double.mul x1 y2).bind fun ad => (Ieee.double.mul y1 x2).bind fun bc => (Ieee.double.add ad bc).bind fun im => some (re, im)) = some (r, s)
    simp only [e1, e2, Option.bind_some, e3, e4, e5, e6])
  have G1 := Lib.hid g3
  have G2 := Lib.hid g6
  clear h1 h2 h3 h4 m11 m12 m13 m14 m21 m22 m23 m24 b1 b2 b3 b4 e1 e2 e3 e4 e5 e6 g1 g2 g3 g4 g5 g6
  go_enter Try.func78, Try.ntmps78
  go_wp2
  go_ret
  exact ⟨r, s, rfl, G1.out, G2.out, Below.refl _ _⟩

theorem rep_neg {x : Nat} {n : Int} (h : Rep x n) : Rep (Op.negFloat .f64 x) (-n) := by
  obtain ⟨s, m, e, h1, h2, h3⟩ := h
  refine ⟨!s, m, e, ?_, h2, Rep.opposite h3⟩
  have hq : (x ^^^ 2 ^ 63) / 2 ^ 63 % 2 = (x / 2 ^ 63 + 1) % 2 := by
    rw [Nat.xor_div_two_pow, Nat.div_self (Nat.two_pow_pos _)]
    have := Nat.xor_mod_two_pow (a := x / 2 ^ 63) (b := 1) (n := 1)
    rw [Nat.pow_one] at this
    rw [this]
    rcases Nat.mod_two_eq_zero_or_one (x / 2 ^ 63) with h | h
    · rw [h, Nat.add_mod, h]; rfl
    · rw [h, Nat.add_mod, h]; rfl
  have hr : (x ^^^ 2 ^ 63) % 2 ^ 63 = x % 2 ^ 63 := by
    rw [Nat.xor_mod_two_pow, Nat.mod_self, Nat.xor_zero]
  have hn : Op.negFloat .f64 x = x ^^^ 2 ^ 63 := rfl
  rw [hn]
  obtain ⟨-, e2, e3, e4, e5⟩ := double_numbers
  unfold Ieee.Format.read at h1 ⊢
  rw [e5] at h1 ⊢
  rw [hq, hr]
  simp only at h1 ⊢
  have hb : ((x / 2 ^ 63 + 1) % 2 == 1) = !(x / 2 ^ 63 % 2 == 1) := by
    rcases Nat.mod_two_eq_zero_or_one (x / 2 ^ 63) with h | h
    · rw [h, Nat.add_mod, h]; rfl
    · rw [h, Nat.add_mod, h]; rfl
  rw [hb]
  generalize (x / 2 ^ 63 % 2 == 1) = t at h1 ⊢
  split at h1
  · rename_i c
    rw [if_pos c]
    injection h1 with q1 q2 q3
    rw [q1, q2, q3]
  · rename_i c
    rw [if_neg c]
    split at h1
    · rename_i c'
      rw [if_pos c']
      injection h1 with q1 q2 q3
      rw [q1, q2, q3]
    · rename_i c'
      split at h1 <;> cases h1

theorem conj_do : DoSays 76 (fun a _ _ _ => a) (fun _ b _ _ => -b) := by
  intro x1 y1 x2 y2 a b c d w h1 h2 h3 h4 m1 m2
  have h5 := rep_neg h2
  have G1 := Lib.hid h1
  have G2 := Lib.hid h5
  clear h1 h2 h3 h4 m1 m2 h5
  have hneg : ∀ (x : Nat) (w : World), (Op.unary .neg (.float .f64 x)).run Try.prog w = .ok (.float .f64 (Op.negFloat .f64 x)) w := fun _ _ => rfl
  go_enter Try.func76, Try.ntmps76
  go_wp2
  go_ret
  exact ⟨_, _, rfl, G1.out, G2.out, Below.refl _ _⟩


/-- What two pairs come to. -/
def bothV (re im : Int → Int → Int → Int → Int) (a b c d : Int) : Int × Int × Bool :=
  if mayB a b = true ∧ mayB c d = true ∧ mayB (re a b c d) (im a b c d) = true then (re a b c d, im a b c d, true) else (0, 0, false)

def Bounded (re im : Int → Int → Int → Int → Int) : Prop :=
  ∀ a b c d, mayB a b = true → mayB c d = true → (re a b c d).natAbs < 2 ^ 53 ∧ (im a b c d).natAbs < 2 ^ 53

theorem bcell {W w1 : World} (hb : Below W.heap.size W w1) : (∀ b o, b < W.heap.size → w1.cell? ⟨b, o, none⟩ = W.cell? ⟨b, o, none⟩) ∧ (∀ b o, b < W.heap.size → w1.frozen? ⟨b, o, none⟩ = W.frozen? ⟨b, o, none⟩) :=
  ⟨fun b o h => hb.cell (p := ⟨b, o, none⟩) h, fun b o h => hb.frozen (p := ⟨b, o, none⟩) h⟩

theorem Below.after {w W w1 : World} (h0 : Below w.heap.size w W) (hb : Below W.heap.size W w1) : Below w.heap.size w w1 := h0.trans (hb.mono h0.size)

theorem below_sz {a w : World} (h : Below a.heap.size a w) : a.heap.size ≤ w.heap.size := h.size

theorem Below.realloc {a w : World} {o : Obj} (h : Below a.heap.size a (w.alloc o)) (hB : a.heap.size ≤ w.heap.size) (o' : Obj) : Below a.heap.size a (w.alloc o') := by
  refine ⟨h.os, h.tape, h.output, by simp; omega, fun k hk => ?_⟩
  rw [Below.heap_alloc _ _ _ (by omega), ← h.block k hk, Below.heap_alloc _ _ _ (by omega)]

theorem both_no1 (f : Nat) (a b c d : Int) (w : World) (h : mayB a b = false) :
    Calls Try.prog 75 #[.agg #[.int .i64 a, .int .i64 b], .agg #[.int .i64 c, .int .i64 d], .func (.func f) #[] #[]] w fun e w' =>
      e = .returned (.tuple #[.agg #[.int .i64 0, .int .i64 0], .bool false]) ∧ Below w.heap.size w w' := by
  have hm := fun w => may_any a b w
  rw [h] at hm
  have HM := Lib.hid hm
  clear hm h
  go_enter Try.func75, Try.ntmps75
  go_wp2_with fail
  refine (HM.out _).mono ?_
  rintro e w1 ⟨rfl, hb⟩
  have hB : Below w.heap.size w w1 := Below.after (by go_grown) hb
  obtain ⟨hc, hf⟩ := bcell hb
  have hz : w.heap.size + 2 < w1.heap.size := by have := hb.size; simp at this; omega
  go_wp2_with fail
  refine bodyPost_ret (v := .tuple #[.agg #[.int .i64 0, .int .i64 0], .bool false]) (by simp [results, Try.results75, go_sem, hc]) rfl ⟨rfl, ?_⟩
  go_grown

theorem both_no2 (f : Nat) (a b c d : Int) (w : World) (h : mayB a b = true) (h2 : mayB c d = false) :
    Calls Try.prog 75 #[.agg #[.int .i64 a, .int .i64 b], .agg #[.int .i64 c, .int .i64 d], .func (.func f) #[] #[]] w fun e w' =>
      e = .returned (.tuple #[.agg #[.int .i64 0, .int .i64 0], .bool false]) ∧ Below w.heap.size w w' := by
  have hm := fun w => may_any a b w
  rw [h] at hm
  have HM := Lib.hid hm
  have hm2 := fun w => may_any c d w
  rw [h2] at hm2
  have HM2 := Lib.hid hm2
  clear hm h hm2 h2
  go_enter Try.func75, Try.ntmps75
  go_wp2_with fail
  refine (HM.out _).mono ?_
  rintro e w1 ⟨rfl, hb⟩
  have hB : Below w.heap.size w w1 := Below.after (by go_grown) hb
  obtain ⟨hc, hf⟩ := bcell hb
  have hz : w.heap.size + 2 < w1.heap.size := by have := hb.size; simp at this; omega
  clear hb
  go_wp2_with fail
  refine (HM2.out _).mono ?_
  rintro e w2 ⟨rfl, hb2⟩
  have hB2 : Below w.heap.size w w2 := Below.after (by go_grown) hb2
  obtain ⟨hc2, hf2⟩ := bcell hb2
  have hz2 : w.heap.size + 2 < w2.heap.size := by have := hb2.size; omega
  go_wp2_with fail
  refine bodyPost_ret (v := .tuple #[.agg #[.int .i64 0, .int .i64 0], .bool false]) (by simp [results, Try.results75, go_sem, hc, hz, hc2]) rfl ⟨rfl, ?_⟩
  go_grown

set_option maxHeartbeats 4000000 in
theorem both_yes (f : Nat) (re im : Int → Int → Int → Int → Int) (hcf : ∀ (args : Array Value) (w : World), (callFunc f args).run Try.prog w = .ok (.enter f args) w) (hdo : DoSays f re im) (hbd : Bounded re im) (a b c d : Int) (w : World) (h : mayB a b = true) (h2 : mayB c d = true) (h3 : mayB (re a b c d) (im a b c d) = true) :
    Calls Try.prog 75 #[.agg #[.int .i64 a, .int .i64 b], .agg #[.int .i64 c, .int .i64 d], .func (.func f) #[] #[]] w fun e w' =>
      e = .returned (.tuple #[.agg #[.int .i64 (re a b c d), .int .i64 (im a b c d)], .bool true]) ∧ Below w.heap.size w w' := by
  have hm := fun w => may_any a b w
  rw [h] at hm
  have HM := Lib.hid hm
  have hm2 := fun w => may_any c d w
  rw [h2] at hm2
  have HM2 := Lib.hid hm2
  have hm3 := fun w => may_any (re a b c d) (im a b c d) w
  rw [h3] at hm3
  have HM3 := Lib.hid hm3
  clear hm hm2 hm3 h3
  go_enter Try.func75, Try.ntmps75
  go_wp2_with fail
  refine (HM.out _).mono ?_
  rintro e w1 ⟨rfl, hb⟩
  have hB : Below w.heap.size w w1 := Below.after (by go_grown) hb
  obtain ⟨hc, hf⟩ := bcell hb
  have hz : w.heap.size + 2 < w1.heap.size := by have := hb.size; simp at this; omega
  clear hb
  go_wp2_with fail
  refine (HM2.out _).mono ?_
  rintro e w2 ⟨rfl, hb2⟩
  have hB2 : Below w.heap.size w w2 := Below.after (by go_grown) hb2
  obtain ⟨hc2, hf2⟩ := bcell hb2
  have hz2 : w.heap.size + 2 < w2.heap.size := by have := hb2.size; omega
  have s1 : w2.cell? ⟨w.heap.size, 0, none⟩ = some (.int .i64 a) := by rw [hc2 _ _ (by omega), hc _ _ (by first | (simp; done) | (simp; omega))]; simp [go_sem]
  have s2 : w2.cell? ⟨w.heap.size, 1, none⟩ = some (.int .i64 b) := by rw [hc2 _ _ (by omega), hc _ _ (by first | (simp; done) | (simp; omega))]; simp [go_sem]
  have s3 : w2.cell? ⟨w.heap.size + 1, 0, none⟩ = some (.int .i64 c) := by rw [hc2 _ _ (by omega), hc _ _ (by first | (simp; done) | (simp; omega))]; simp [go_sem]
  have s4 : w2.cell? ⟨w.heap.size + 1, 1, none⟩ = some (.int .i64 d) := by rw [hc2 _ _ (by omega), hc _ _ (by first | (simp; done) | (simp; omega))]; simp [go_sem]
  have s5 : w2.cell? ⟨w.heap.size + 1 + 1, 0, none⟩ = some (.int .i64 0) := by rw [hc2 _ _ (by omega), hc _ _ (by first | (simp; done) | (simp; omega))]; simp [go_sem]
  have s6 : w2.cell? ⟨w.heap.size + 1 + 1, 1, none⟩ = some (.int .i64 0) := by rw [hc2 _ _ (by omega), hc _ _ (by first | (simp; done) | (simp; omega))]; simp [go_sem]
  have s7 : w2.frozen? ⟨w.heap.size + 1 + 1, 0, none⟩ = false := by rw [hf2 _ _ (by omega), hf _ _ (by first | (simp; done) | (simp; omega))]; simp [go_sem]
  have s8 : w2.frozen? ⟨w.heap.size + 1 + 1, 1, none⟩ = false := by rw [hf2 _ _ (by omega), hf _ _ (by first | (simp; done) | (simp; omega))]; simp [go_sem]
  clear hb2 hc hf hc2 hf2 hB hz
  have hb' := hbd a b c d h h2
  have q1 := mayB_iff.1 h
  have q2 := mayB_iff.1 h2
  have H1 := Lib.hid h
  have H2 := Lib.hid h2
  have HDO : Hid (DoSays f re im) := Lib.hid hdo
  clear h h2 hdo
  have key : ∀ W, Below w2.heap.size w2 W → W.cell? ⟨w.heap.size, 0, none⟩ = some (.int .i64 a) ∧ W.cell? ⟨w.heap.size, 1, none⟩ = some (.int .i64 b) ∧
      W.cell? ⟨w.heap.size + 1, 0, none⟩ = some (.int .i64 c) ∧ W.cell? ⟨w.heap.size + 1, 1, none⟩ = some (.int .i64 d) ∧ Below w2.heap.size w2 W :=
    fun W hS => ⟨(hS.cell (by simp; omega)).trans s1, (hS.cell (by simp; omega)).trans s2, (hS.cell (by simp; omega)).trans s3, (hS.cell (by simp; omega)).trans s4, hS⟩
  have KEY := Lib.hid key
  clear key
  go_wp2_with fail
  go_region_held3 (fun w' => w'.cell? ⟨w.heap.size, 0, none⟩ = some (.int .i64 a) ∧ w'.cell? ⟨w.heap.size, 1, none⟩ = some (.int .i64 b) ∧
      w'.cell? ⟨w.heap.size + 1, 0, none⟩ = some (.int .i64 c) ∧ w'.cell? ⟨w.heap.size + 1, 1, none⟩ = some (.int .i64 d) ∧ Below w2.heap.size w2 w')
    ((refine KEY.out _ ?_; first
        | (with_reducible refine Below.setCell (Below.setCell ?_ ?_ _) ?_ _; (go_split_ands; with_reducible assumption); (first | omega | exact Nat.le_refl _); (first | omega | exact Nat.le_refl _))
        | (with_reducible exact Below.drew (Below.refl _ _))
        | (with_reducible exact Below.drew (Below.alloc (Below.refl _ _) (Nat.le_refl _) _))
        | (with_reducible refine Below.after ?_ hb; go_split_ands; with_reducible assumption)
        | (go_split_ands; with_reducible refine Below.realloc ?_ ?_ _; rotate_left; (first | omega | (simp; done)); with_reducible assumption)
        | (go_split_ands; with_reducible refine Below.alloc ?_ ?_ _; (with_reducible assumption); exact below_sz (a := w2) (by with_reducible assumption))
        | (go_split_ands; with_reducible refine Below.alloc (Below.after ?_ hb) ?_ _; (with_reducible assumption); omega)
        | (go_split_ands; with_reducible refine Below.setCell (Below.setCell ?_ ?_ _) ?_ _; (with_reducible assumption); (first | omega | (simp; done) | (simp; omega)); (first | omega | (simp; done) | (simp; omega)))
        | fail))
    (first
      | (go_at_call 81; refine (number_any _ _ _ (by omega) (by omega)).mono ?_; rintro e w' ⟨x, y, rfl, hx, hy, hb⟩; obtain ⟨hcc, hff⟩ := bcell hb; have hz := hb.size; (try simp only [World.size_drew, World.size_alloc, Nat.add_one_le_iff] at hz); (try have hlt2 := Nat.lt_of_lt_of_le (by with_reducible assumption) hb.size); go_split_ands; have hsz : w2.heap.size ≤ w'.heap.size := Nat.le_trans (below_sz (a := w2) (by with_reducible assumption)) hb.size)
      | (go_at_call 80; refine (pair_any _ _ (re a b c d) (im a b c d) _ (by assumption) (by assumption) (by omega) (by omega)).mono ?_; rintro e w' ⟨rfl, hb⟩; obtain ⟨hcc, hff⟩ := bcell hb; have hz := hb.size; (try simp only [World.size_drew, World.size_alloc, Nat.add_one_le_iff] at hz); (try have hlt2 := Nat.lt_of_lt_of_le (by with_reducible assumption) hb.size); go_split_ands; have hsz : w2.heap.size ≤ w'.heap.size := Nat.le_trans (below_sz (a := w2) (by with_reducible assumption)) hb.size)
      | (refine (HDO.out _ _ _ _ a b c d _ (by assumption) (by assumption) (by assumption) (by assumption) H1.out H2.out).mono ?_; rintro e w' ⟨x, y, rfl, hx, hy, hb⟩; obtain ⟨hcc, hff⟩ := bcell hb; have hz := hb.size; (try simp only [World.size_drew, World.size_alloc, Nat.add_one_le_iff] at hz); (try have hlt2 := Nat.lt_of_lt_of_le (by with_reducible assumption) hb.size); go_split_ands; have hsz : w2.heap.size ≤ w'.heap.size := Nat.le_trans (below_sz (a := w2) (by with_reducible assumption)) hb.size))
  all_goals
    go_wp2_with fail
    refine (HM3.out _).mono ?_
    rintro e w3 ⟨rfl, hb3⟩
    obtain ⟨hcc3, hff3⟩ := bcell hb3
    have hz3 := hb3.size
    (try simp only [World.size_drew, World.size_alloc, World.size_setCell, Nat.add_one_le_iff] at hz3)
    (try have hlt3 := Nat.lt_of_lt_of_le (by with_reducible assumption) hb3.size)
    have hB3 : Below w2.heap.size w2 w3 := Below.after (by go_split_ands; with_reducible assumption) hb3
    have t5 : w3.cell? ⟨w.heap.size + 1 + 1, 0, none⟩ = some (.int .i64 0) := (hB3.cell (by simp; omega)).trans s5
    have t6 : w3.cell? ⟨w.heap.size + 1 + 1, 1, none⟩ = some (.int .i64 0) := (hB3.cell (by simp; omega)).trans s6
    have t7 : w3.frozen? ⟨w.heap.size + 1 + 1, 0, none⟩ = false := (hB3.frozen (by simp; omega)).trans s7
    have t8 : w3.frozen? ⟨w.heap.size + 1 + 1, 1, none⟩ = false := (hB3.frozen (by simp; omega)).trans s8
    have hB4 : Below w.heap.size w w3 := hB2.trans (hB3.mono (by omega))
    clear hb3
    go_wp2_with fail
    refine bodyPost_ret (v := .tuple #[.agg #[.int .i64 (re a b c d), .int .i64 (im a b c d)], .bool true]) (by simp [results, Try.results75, go_sem, *]) rfl ⟨rfl, ?_⟩
    exact Below.setCell (Below.setCell hB4 (by simp; omega) _) (by simp; omega) _

set_option maxHeartbeats 4000000 in
theorem both_no3 (f : Nat) (re im : Int → Int → Int → Int → Int) (hcf : ∀ (args : Array Value) (w : World), (callFunc f args).run Try.prog w = .ok (.enter f args) w) (hdo : DoSays f re im) (hbd : Bounded re im) (a b c d : Int) (w : World) (h : mayB a b = true) (h2 : mayB c d = true) (h3 : mayB (re a b c d) (im a b c d) = false) :
    Calls Try.prog 75 #[.agg #[.int .i64 a, .int .i64 b], .agg #[.int .i64 c, .int .i64 d], .func (.func f) #[] #[]] w fun e w' =>
      e = .returned (.tuple #[.agg #[.int .i64 0, .int .i64 0], .bool false]) ∧ Below w.heap.size w w' := by
  have hm := fun w => may_any a b w
  rw [h] at hm
  have HM := Lib.hid hm
  have hm2 := fun w => may_any c d w
  rw [h2] at hm2
  have HM2 := Lib.hid hm2
  have hm3 := fun w => may_any (re a b c d) (im a b c d) w
  rw [h3] at hm3
  have HM3 := Lib.hid hm3
  clear hm hm2 hm3 h3
  go_enter Try.func75, Try.ntmps75
  go_wp2_with fail
  refine (HM.out _).mono ?_
  rintro e w1 ⟨rfl, hb⟩
  have hB : Below w.heap.size w w1 := Below.after (by go_grown) hb
  obtain ⟨hc, hf⟩ := bcell hb
  have hz : w.heap.size + 2 < w1.heap.size := by have := hb.size; simp at this; omega
  clear hb
  go_wp2_with fail
  refine (HM2.out _).mono ?_
  rintro e w2 ⟨rfl, hb2⟩
  have hB2 : Below w.heap.size w w2 := Below.after (by go_grown) hb2
  obtain ⟨hc2, hf2⟩ := bcell hb2
  have hz2 : w.heap.size + 2 < w2.heap.size := by have := hb2.size; omega
  have s1 : w2.cell? ⟨w.heap.size, 0, none⟩ = some (.int .i64 a) := by rw [hc2 _ _ (by omega), hc _ _ (by first | (simp; done) | (simp; omega))]; simp [go_sem]
  have s2 : w2.cell? ⟨w.heap.size, 1, none⟩ = some (.int .i64 b) := by rw [hc2 _ _ (by omega), hc _ _ (by first | (simp; done) | (simp; omega))]; simp [go_sem]
  have s3 : w2.cell? ⟨w.heap.size + 1, 0, none⟩ = some (.int .i64 c) := by rw [hc2 _ _ (by omega), hc _ _ (by first | (simp; done) | (simp; omega))]; simp [go_sem]
  have s4 : w2.cell? ⟨w.heap.size + 1, 1, none⟩ = some (.int .i64 d) := by rw [hc2 _ _ (by omega), hc _ _ (by first | (simp; done) | (simp; omega))]; simp [go_sem]
  have s5 : w2.cell? ⟨w.heap.size + 1 + 1, 0, none⟩ = some (.int .i64 0) := by rw [hc2 _ _ (by omega), hc _ _ (by first | (simp; done) | (simp; omega))]; simp [go_sem]
  have s6 : w2.cell? ⟨w.heap.size + 1 + 1, 1, none⟩ = some (.int .i64 0) := by rw [hc2 _ _ (by omega), hc _ _ (by first | (simp; done) | (simp; omega))]; simp [go_sem]
  have s7 : w2.frozen? ⟨w.heap.size + 1 + 1, 0, none⟩ = false := by rw [hf2 _ _ (by omega), hf _ _ (by first | (simp; done) | (simp; omega))]; simp [go_sem]
  have s8 : w2.frozen? ⟨w.heap.size + 1 + 1, 1, none⟩ = false := by rw [hf2 _ _ (by omega), hf _ _ (by first | (simp; done) | (simp; omega))]; simp [go_sem]
  clear hb2 hc hf hc2 hf2 hB hz
  have hb' := hbd a b c d h h2
  have q1 := mayB_iff.1 h
  have q2 := mayB_iff.1 h2
  have H1 := Lib.hid h
  have H2 := Lib.hid h2
  have HDO : Hid (DoSays f re im) := Lib.hid hdo
  clear h h2 hdo
  have key : ∀ W, Below w2.heap.size w2 W → W.cell? ⟨w.heap.size, 0, none⟩ = some (.int .i64 a) ∧ W.cell? ⟨w.heap.size, 1, none⟩ = some (.int .i64 b) ∧
      W.cell? ⟨w.heap.size + 1, 0, none⟩ = some (.int .i64 c) ∧ W.cell? ⟨w.heap.size + 1, 1, none⟩ = some (.int .i64 d) ∧ Below w2.heap.size w2 W :=
    fun W hS => ⟨(hS.cell (by simp; omega)).trans s1, (hS.cell (by simp; omega)).trans s2, (hS.cell (by simp; omega)).trans s3, (hS.cell (by simp; omega)).trans s4, hS⟩
  have KEY := Lib.hid key
  clear key
  go_wp2_with fail
  go_region_held3 (fun w' => w'.cell? ⟨w.heap.size, 0, none⟩ = some (.int .i64 a) ∧ w'.cell? ⟨w.heap.size, 1, none⟩ = some (.int .i64 b) ∧
      w'.cell? ⟨w.heap.size + 1, 0, none⟩ = some (.int .i64 c) ∧ w'.cell? ⟨w.heap.size + 1, 1, none⟩ = some (.int .i64 d) ∧ Below w2.heap.size w2 w')
    ((refine KEY.out _ ?_; first
        | (with_reducible refine Below.setCell (Below.setCell ?_ ?_ _) ?_ _; (go_split_ands; with_reducible assumption); (first | omega | exact Nat.le_refl _); (first | omega | exact Nat.le_refl _))
        | (with_reducible exact Below.drew (Below.refl _ _))
        | (with_reducible exact Below.drew (Below.alloc (Below.refl _ _) (Nat.le_refl _) _))
        | (with_reducible refine Below.after ?_ hb; go_split_ands; with_reducible assumption)
        | (go_split_ands; with_reducible refine Below.realloc ?_ ?_ _; rotate_left; (first | omega | (simp; done)); with_reducible assumption)
        | (go_split_ands; with_reducible refine Below.alloc ?_ ?_ _; (with_reducible assumption); exact below_sz (a := w2) (by with_reducible assumption))
        | (go_split_ands; with_reducible refine Below.alloc (Below.after ?_ hb) ?_ _; (with_reducible assumption); omega)
        | (go_split_ands; with_reducible refine Below.setCell (Below.setCell ?_ ?_ _) ?_ _; (with_reducible assumption); (first | omega | (simp; done) | (simp; omega)); (first | omega | (simp; done) | (simp; omega)))
        | fail))
    (first
      | (go_at_call 81; refine (number_any _ _ _ (by omega) (by omega)).mono ?_; rintro e w' ⟨x, y, rfl, hx, hy, hb⟩; obtain ⟨hcc, hff⟩ := bcell hb; have hz := hb.size; (try simp only [World.size_drew, World.size_alloc, Nat.add_one_le_iff] at hz); (try have hlt2 := Nat.lt_of_lt_of_le (by with_reducible assumption) hb.size); go_split_ands; have hsz : w2.heap.size ≤ w'.heap.size := Nat.le_trans (below_sz (a := w2) (by with_reducible assumption)) hb.size)
      | (go_at_call 80; refine (pair_any _ _ (re a b c d) (im a b c d) _ (by assumption) (by assumption) (by omega) (by omega)).mono ?_; rintro e w' ⟨rfl, hb⟩; obtain ⟨hcc, hff⟩ := bcell hb; have hz := hb.size; (try simp only [World.size_drew, World.size_alloc, Nat.add_one_le_iff] at hz); (try have hlt2 := Nat.lt_of_lt_of_le (by with_reducible assumption) hb.size); go_split_ands; have hsz : w2.heap.size ≤ w'.heap.size := Nat.le_trans (below_sz (a := w2) (by with_reducible assumption)) hb.size)
      | (refine (HDO.out _ _ _ _ a b c d _ (by assumption) (by assumption) (by assumption) (by assumption) H1.out H2.out).mono ?_; rintro e w' ⟨x, y, rfl, hx, hy, hb⟩; obtain ⟨hcc, hff⟩ := bcell hb; have hz := hb.size; (try simp only [World.size_drew, World.size_alloc, Nat.add_one_le_iff] at hz); (try have hlt2 := Nat.lt_of_lt_of_le (by with_reducible assumption) hb.size); go_split_ands; have hsz : w2.heap.size ≤ w'.heap.size := Nat.le_trans (below_sz (a := w2) (by with_reducible assumption)) hb.size))
  all_goals
    go_wp2_with fail
    refine (HM3.out _).mono ?_
    rintro e w3 ⟨rfl, hb3⟩
    obtain ⟨hcc3, hff3⟩ := bcell hb3
    have hz3 := hb3.size
    (try simp only [World.size_drew, World.size_alloc, World.size_setCell, Nat.add_one_le_iff] at hz3)
    (try have hlt3 := Nat.lt_of_lt_of_le (by with_reducible assumption) hb3.size)
    have hB3 : Below w2.heap.size w2 w3 := Below.after (by go_split_ands; with_reducible assumption) hb3
    have t5 : w3.cell? ⟨w.heap.size + 1 + 1, 0, none⟩ = some (.int .i64 0) := (hB3.cell (by simp; omega)).trans s5
    have t6 : w3.cell? ⟨w.heap.size + 1 + 1, 1, none⟩ = some (.int .i64 0) := (hB3.cell (by simp; omega)).trans s6
    have t7 : w3.frozen? ⟨w.heap.size + 1 + 1, 0, none⟩ = false := (hB3.frozen (by simp; omega)).trans s7
    have t8 : w3.frozen? ⟨w.heap.size + 1 + 1, 1, none⟩ = false := (hB3.frozen (by simp; omega)).trans s8
    have hB4 : Below w.heap.size w w3 := hB2.trans (hB3.mono (by omega))
    clear hb3
    go_wp2_with fail
    refine bodyPost_ret (v := .tuple #[.agg #[.int .i64 0, .int .i64 0], .bool false]) (by simp [results, Try.results75, go_sem, *]) rfl ⟨rfl, ?_⟩
    exact Below.setCell (Below.setCell hB4 (by simp; omega) _) (by simp; omega) _

theorem both_any (f : Nat) (re im : Int → Int → Int → Int → Int) (hcf : ∀ (args : Array Value) (w : World), (callFunc f args).run Try.prog w = .ok (.enter f args) w) (hdo : DoSays f re im) (hbd : Bounded re im) (a b c d : Int) (w : World) :
    Calls Try.prog 75 #[.agg #[.int .i64 a, .int .i64 b], .agg #[.int .i64 c, .int .i64 d], .func (.func f) #[] #[]] w fun e w' =>
      e = .returned (.tuple #[.agg #[.int .i64 (bothV re im a b c d).1, .int .i64 (bothV re im a b c d).2.1], .bool (bothV re im a b c d).2.2]) ∧ Below w.heap.size w w' := by
  unfold bothV
  by_cases h : mayB a b = true
  · by_cases h2 : mayB c d = true
    · by_cases h3 : mayB (re a b c d) (im a b c d) = true
      · rw [if_pos ⟨h, h2, h3⟩]
        exact both_yes f re im hcf hdo hbd a b c d w h h2 h3
      · rw [if_neg (by simp [h3])]
        exact both_no3 f re im hcf hdo hbd a b c d w h h2 (by simpa using h3)
    · rw [if_neg (by simp [h2])]
      exact both_no2 f a b c d w h (by simpa using h2)
  · rw [if_neg (by simp [h])]
    exact both_no1 f a b c d w (by simpa using h)

theorem add_bd : Bounded (fun a _ c _ => a + c) (fun _ b _ d => b + d) := by
  intro a b c d h1 h2
  rw [mayB_iff] at h1 h2
  exact ⟨by show (a + c).natAbs < _; omega, by show (b + d).natAbs < _; omega⟩

theorem sub_bd : Bounded (fun a _ c _ => a - c) (fun _ b _ d => b - d) := by
  intro a b c d h1 h2
  rw [mayB_iff] at h1 h2
  exact ⟨by show (a - c).natAbs < _; omega, by show (b - d).natAbs < _; omega⟩

theorem prod_bd : Bounded (fun a b c d => a * c - b * d) (fun a b c d => a * d + b * c) := by
  intro a b c d h1 h2
  rw [mayB_iff] at h1 h2
  have b1 := mul_bd h1.1 h1.2.1 h2.1 h2.2.1
  have b2 := mul_bd h1.2.2.1 h1.2.2.2 h2.2.2.1 h2.2.2.2
  have b3 := mul_bd h1.1 h1.2.1 h2.2.2.1 h2.2.2.2
  have b4 := mul_bd h1.2.2.1 h1.2.2.2 h2.1 h2.2.1
  exact ⟨by show (a * c - b * d).natAbs < _; omega, by show (a * d + b * c).natAbs < _; omega⟩

theorem conj_bd : Bounded (fun a _ _ _ => a) (fun _ b _ _ => -b) := by
  intro a b c d h1 h2
  rw [mayB_iff] at h1 h2
  exact ⟨by show a.natAbs < _; omega, by show (-b).natAbs < _; omega⟩

def addV (a b c d : Int) : Int × Int × Bool := bothV (fun a _ c _ => a + c) (fun _ b _ d => b + d) a b c d
def subV (a b c d : Int) : Int × Int × Bool := bothV (fun a _ c _ => a - c) (fun _ b _ d => b - d) a b c d
def mulV (a b c d : Int) : Int × Int × Bool := bothV (fun a b c d => a * c - b * d) (fun a b c d => a * d + b * c) a b c d
def conjV (a b : Int) : Int × Int × Bool := bothV (fun a _ _ _ => a) (fun _ b _ _ => -b) a b a b

end Go.Proofs.Ytkhgpeejmbfmjaa
