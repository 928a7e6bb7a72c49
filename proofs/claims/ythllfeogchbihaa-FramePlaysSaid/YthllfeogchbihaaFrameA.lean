/- Frames (package frame): what lies in memory, and the contracts of the small functions. -/
import Derived.Test.YthllfeogchbihaaTouch
import Derived.WalkLawsBesides
import Derived.KernelRfl
import Derived.Lib.Hide
import Derived.Handy
import Derived.Deep.QuietTactic
import Derived.BigQuiet
import Derived.Maps.OwnSet
import Derived.Maps.OwnOps
import Derived.Maps.Views
import Derived.WalkSmall
import Derived.WalkSpells
import Derived.IntWalk
namespace Go.Proofs.Ythllfeogchbihaa
open Go.RowKit
set_option linter.unusedSimpArgs false
set_option linter.unusedVariables false

/-- A value: its kind, and two numbers. -/
abbrev V := Int × Int × Int
def I64 (x : Int) : Prop := -9223372036854775808 ≤ x ∧ x ≤ 9223372036854775807
def VOk (v : V) : Prop := (0 ≤ v.1 ∧ v.1 ≤ 255) ∧ I64 v.2.1 ∧ I64 v.2.2
def zv : V := (0, 0, 0)
def vc (v : V) : List Value := [.int .u8 v.1, .int .i64 v.2.1, .int .i64 v.2.2]
def vagg (v : V) : Value := .agg #[.int .u8 v.1, .int .i64 v.2.1, .int .i64 v.2.2]
def vcs (l : List V) : List Value := l.flatMap vc
theorem vcs_nil : vcs [] = [] := rfl
theorem vcs_cons (v : V) (l : List V) : vcs (v :: l) = .int .u8 v.1 :: .int .i64 v.2.1 :: .int .i64 v.2.2 :: vcs l := rfl
theorem vcs_append (l m : List V) : vcs (l ++ m) = vcs l ++ vcs m := List.flatMap_append
theorem vcs_length (l : List V) : (vcs l).length = l.length * 3 := by
  induction l with
  | nil => rfl
  | cons v l ih => rw [vcs_cons]; simp only [List.length_cons, ih]; omega
theorem vcs_get (l : List V) : ∀ i, (h : i < l.length) → (vcs l)[i * 3]? = some (.int .u8 l[i].1) ∧ (vcs l)[i * 3 + 1]? = some (.int .i64 l[i].2.1) ∧ (vcs l)[i * 3 + 2]? = some (.int .i64 l[i].2.2) := by
  induction l with
  | nil => intro i h; simp at h
  | cons v l ih =>
    intro i h
    rw [vcs_cons]
    cases i with
    | zero => exact ⟨rfl, rfl, rfl⟩
    | succ i =>
      obtain ⟨a, b, c⟩ := ih i (by simpa using h)
      have e : (i + 1) * 3 = i * 3 + 1 + 1 + 1 := by omega
      rw [e]
      refine ⟨?_, ?_, ?_⟩
      · simpa only [List.getElem?_cons_succ, List.getElem_cons_succ] using a
      · have e2 : i * 3 + 1 + 1 + 1 + 1 = (i * 3 + 1) + 1 + 1 + 1 := by omega
        rw [e2]
        simpa only [List.getElem?_cons_succ, List.getElem_cons_succ] using b
      · have e2 : i * 3 + 1 + 1 + 1 + 2 = (i * 3 + 2) + 1 + 1 + 1 := by omega
        rw [e2]
        simpa only [List.getElem?_cons_succ, List.getElem_cons_succ] using c
theorem vcs_set (l : List V) (v : V) : ∀ i, i < l.length → (((vcs l).set (i * 3) (.int .u8 v.1)).set (i * 3 + 1) (.int .i64 v.2.1)).set (i * 3 + 2) (.int .i64 v.2.2) = vcs (l.set i v) := by
  induction l with
  | nil => intro i h; simp at h
  | cons u l ih =>
    intro i h
    cases i with
    | zero => rfl
    | succ i =>
      have hi := ih i (by simpa using h)
      rw [List.set_cons_succ, vcs_cons, vcs_cons, ← hi]
      have e : (i + 1) * 3 = i * 3 + 1 + 1 + 1 := by omega
      rw [e]
      have e2 : i * 3 + 1 + 1 + 1 + 1 = (i * 3 + 1) + 1 + 1 + 1 := by omega
      have e3 : i * 3 + 1 + 1 + 1 + 2 = (i * 3 + 2) + 1 + 1 + 1 := by omega
      rw [e3, e2]
      simp only [List.set_cons_succ]

/-- A frame. -/
structure Fr where
  locs : List V
  many : Nat
  stk : List V
  place : Int
  turns : Int → Int

/-- .. in memory. -/
structure FrAt (W : World) (base fg gm nm : Nat) (A : Option Addr) (cap : Nat) (F : Fr) : Prop where
  blk : Blk W fg (vcs F.locs ++ [.int .i64 F.many, .slice A F.stk.length cap, .int .i64 F.place, .map (some gm)])
  ll : F.locs.length = 16
  ml : F.many ≤ 16
  sl : F.stk.length ≤ 256
  row : W.ownsRow base 37 3 (.slice A F.stk.length cap) F.stk.length (vcs F.stk)
  mp : ∃ D : DataW Unit, W.ownsMap Try.prog 3 (plainElem Try.prog 3) gm nm D ∧ Maps.IsMap D ∧ ∀ k : Int, D.atKey (.int .i64 k) (.lit (.int .i64 0)) = .lit (.int .i64 (F.turns k))
  tw : ∀ k, 0 ≤ F.turns k ∧ F.turns k ≤ 9223372036854775807
  vo : ∀ v ∈ F.locs, VOk v
  so : ∀ v ∈ F.stk, VOk v
  b1 : fg < base
  b2 : gm < base
  ne : fg ≠ gm
  bs : base ≤ W.heap.size

/-- Its blocks. -/
def FF (fg gm : Nat) (A : Option Addr) : Nat → Prop := fun b => b = fg ∨ b = gm ∨ ∃ a : Addr, A = some a ∧ b = a.block

theorem ownsMap_touch {S : Nat → Prop} {W W' : World} (t : Touch S W W') {b n : Nat} {R : Value → Option (DataW Unit × List MemPlace)} {D : DataW Unit} (h : W.ownsMap Try.prog 3 R b n D) (hs : ¬ S b) : W'.ownsMap Try.prog 3 R b n D := by
  have hlt := h.lt
  obtain ⟨es, clock, hb, F, hn, hD⟩ := h
  exact ⟨es, clock, (t.block b hlt hs).trans hb, F, hn, hD⟩

section
variable {W : World} {base fg gm nm : Nat} {A : Option Addr} {cap : Nat} {F : Fr}
theorem FrAt.cx (h : FrAt W base fg gm nm A cap F) {j : Nat} {v : Value} (hj : ([.int .i64 F.many, .slice A F.stk.length cap, .int .i64 F.place, .map (some gm)] : List Value)[j]? = some v) : W.cell? ⟨fg, 48 + j, none⟩ = some v := by
  refine h.blk.c _ _ ?_
  have e : (vcs F.locs).length = 48 := by rw [vcs_length, h.ll]
  rw [List.getElem?_append_right (by omega), e, Nat.add_sub_cancel_left]
  exact hj
theorem FrAt.cl (h : FrAt W base fg gm nm A cap F) {i : Nat} (hi : i < 16) : ∃ hl : i < F.locs.length, W.cell? ⟨fg, i * 3, none⟩ = some (.int .u8 F.locs[i].1) ∧ W.cell? ⟨fg, i * 3 + 1, none⟩ = some (.int .i64 F.locs[i].2.1) ∧ W.cell? ⟨fg, i * 3 + 2, none⟩ = some (.int .i64 F.locs[i].2.2) := by
  have hl : i < F.locs.length := by rw [h.ll]; exact hi
  have e : (vcs F.locs).length = 48 := by rw [vcs_length, h.ll]
  obtain ⟨a, b, c⟩ := vcs_get F.locs i hl
  refine ⟨hl, h.blk.c _ _ ?_, h.blk.c _ _ ?_, h.blk.c _ _ ?_⟩
  · rw [List.getElem?_append_left (by omega)]; exact a
  · rw [List.getElem?_append_left (by omega)]; exact b
  · rw [List.getElem?_append_left (by omega)]; exact c
theorem FrAt.c48 (h : FrAt W base fg gm nm A cap F) : W.cell? ⟨fg, 48, none⟩ = some (.int .i64 F.many) := h.cx (j := 0) rfl
theorem FrAt.c49 (h : FrAt W base fg gm nm A cap F) : W.cell? ⟨fg, 49, none⟩ = some (.slice A F.stk.length cap) := h.cx (j := 1) rfl
theorem FrAt.c50 (h : FrAt W base fg gm nm A cap F) : W.cell? ⟨fg, 50, none⟩ = some (.int .i64 F.place) := h.cx (j := 2) rfl
theorem FrAt.c51 (h : FrAt W base fg gm nm A cap F) : W.cell? ⟨fg, 51, none⟩ = some (.map (some gm)) := h.cx (j := 3) rfl
theorem FrAt.touch (h : FrAt W base fg gm nm A cap F) {S : Nat → Prop} {W' : World} (t : Touch S W W') (hs : ∀ b, FF fg gm A b → ¬ S b) : FrAt W' base fg gm nm A cap F := by
  obtain ⟨D, m1, m2, m3⟩ := h.mp
  exact { h with blk := h.blk.touch t (hs _ (.inl rfl)), row := t.row h.row (fun g o c e => hs _ (.inr (.inr ⟨_, by injection e, rfl⟩))), bs := Nat.le_trans h.bs t.size, mp := ⟨D, ownsMap_touch t m1 (hs _ (.inr (.inl rfl))), m2, m3⟩ }
theorem FrAt.below (h : FrAt W base fg gm nm A cap F) {W' : World} (hb : Below W.heap.size W W') : FrAt W' base fg gm nm A cap F :=
  h.touch (Touch.of_below hb (Nat.le_refl _) (fun _ => False)) (fun _ _ e => e)
theorem FrAt.rowBase (h : FrAt W base fg gm nm A cap F) : ∀ a : Addr, A = some a → base ≤ a.block ∧ a.block < W.heap.size := by
  intro a e
  subst e
  exact h.row.lt a.block rfl
theorem FrAt.foot (h : FrAt W base fg gm nm A cap F) : ∀ k, FF fg gm A k → k < W.heap.size := by
  rintro k (rfl | rfl | ⟨a, e, rfl⟩)
  · exact h.blk.l
  · obtain ⟨D, m, -⟩ := h.mp; exact m.lt
  · exact (h.rowBase a e).2

theorem wf_of_i64 {z : Int} (h : I64 z) : (Lit.int .i64 z).wf = true := by
  have h1 := h.1
  have h2 := h.2
  simp only [Lit.wf, IntKind.min, IntKind.max, IntKind.signed, IntKind.bits, Bool.and_eq_true, decide_eq_true_eq]
  constructor
  · simpa using h1
  · simpa using (show z ≤ 9223372036854775807 from h2)
/-- The map's key. -/
theorem key_int {k : Int} (hk : I64 k) : keyOf Try.prog 3 (.int .i64 k) = some (.int .i64 k) := by
  exact Maps.keyOf_int_mk Try.underlying3 (wf_of_i64 hk)

theorem FrAt.stk (h : FrAt W base fg gm nm A cap F) {i : Nat} (hi : i < F.stk.length) : ∃ g, A = some ⟨g, 0, none⟩ ∧ base ≤ g ∧ g < W.heap.size ∧ F.stk.length ≤ cap ∧
    W.cell? ⟨g, i * 3, none⟩ = some (.int .u8 F.stk[i].1) ∧ W.cell? ⟨g, i * 3 + 1, none⟩ = some (.int .i64 F.stk[i].2.1) ∧ W.cell? ⟨g, i * 3 + 2, none⟩ = some (.int .i64 F.stk[i].2.2) := by
  have hr := h.row
  rcases hr.2 with ⟨e, e2⟩ | ⟨g, c, cur, e, hb, hc, hcap, -⟩
  · omega
  · injection e with e1 e2 e3
    subst e1
    obtain ⟨a1, a2, a3⟩ := vcs_get F.stk i hi
    refine ⟨g, rfl, hb, (Array.getElem?_eq_some_iff.1 hc).1, by omega, ?_, ?_, ?_⟩
    · rw [hr.cellAt _ (by omega)]; exact a1
    · rw [hr.cellAt _ (by omega)]; exact a2
    · rw [hr.cellAt _ (by omega)]; exact a3
end
/-! none -/
theorem none_at (fg gm : Nat) (w : World) (hl : fg < w.heap.size) (hc : w.cell? ⟨fg, 51, none⟩ = some (.map (some gm))) :
    Calls Try.prog 24 #[.pointer (some ⟨fg, 0, none⟩)] w fun e w' => e = .returned (.bool false) ∧ w' = w := by
  have hq := fun w => run_eql_map_nil (P := Try.prog) w 57 3 3 (some gm) Try.underlying57
  go_enter Try.func24, Try.ntmps24
  go_wp2_with fail
  go_ret
  exact ⟨rfl, rfl⟩
def Unmade (w : World) (p : Option Addr) : Prop := p = none ∨ ∃ fg, p = some ⟨fg, 0, none⟩ ∧ fg < w.heap.size ∧ w.cell? ⟨fg, 51, none⟩ = some (.map none)
theorem none_un (p : Option Addr) (w : World) (h : Unmade w p) :
    Calls Try.prog 24 #[.pointer p] w fun e w' => e = .returned (.bool true) ∧ w' = w := by
  rcases h with rfl | ⟨fg, rfl, hl, hc⟩
  · go_enter Try.func24, Try.ntmps24
    go_wp2_with fail
    go_ret
    exact ⟨rfl, rfl⟩
  · have hq := fun w => run_eql_map_nil (P := Try.prog) w 57 3 3 none Try.underlying57
    go_enter Try.func24, Try.ntmps24
    go_wp2_with fail
    go_ret
    exact ⟨rfl, rfl⟩
/-! kind -/
def kindB (k : Int) : Bool := decide (1 ≤ k ∧ k ≤ 3)
theorem kind_any (k : Int) (w : World) (h0 : 0 ≤ k) (h1 : k ≤ 255) : Calls Try.prog 23 #[.int .u8 k] w fun e w' => e = .returned (.bool (kindB k)) ∧ w' = w := by
  by_cases h2 : 1 ≤ k
  · by_cases h3 : k ≤ 3
    · have HS : Hid (kindB k = true) := Lib.hid (decide_eq_true ⟨h2, h3⟩)
      go_enter Try.func23, Try.ntmps23
      go_wp2_with fail
      go_ret
      exact ⟨by rw [HS.out]; simp, rfl⟩
    · have HS : Hid (kindB k = false) := Lib.hid (decide_eq_false (fun h => h3 h.2))
      go_enter Try.func23, Try.ntmps23
      go_wp2_with fail
      go_ret
      exact ⟨by rw [HS.out]; simp, rfl⟩
  · have HS : Hid (kindB k = false) := Lib.hid (decide_eq_false (fun h => h2 h.1))
    have h3 : decide (1 ≤ k) = false := decide_eq_false h2
    go_enter Try.func23, Try.ntmps23
    go_wp2_with fail
    go_ret
    exact ⟨by rw [HS.out]; rfl, rfl⟩
section
variable {W : World} {base fg gm nm : Nat} {A : Option Addr} {cap : Nat} {F : Fr}
theorem size_at (h : FrAt W base fg gm nm A cap F) :
    Calls Try.prog 15 #[.pointer (some ⟨fg, 0, none⟩)] W fun e w' => e = .returned (.int .i64 ((F.many : Int) + (F.stk.length : Int))) ∧ ∃ k, w' = W.drewN k := by
  have hc := h.c51
  have hc1 := h.c48
  have hc2 := h.c49
  have hl := h.blk.l
  have hm := h.ml
  have hs := h.sl
  have HN := Lib.hid (none_at fg gm W hl hc)
  generalize F.many = m at *
  generalize F.stk.length = n at *
  have m1 : (m : Int) ≤ 16 := by omega
  have n1 : (n : Int) ≤ 256 := by omega
  have s1 : IntKind.i64.wrap ((m : Int) + (n : Int)) = (m : Int) + (n : Int) := IntWalk.i64_in _ (by omega)
  clear h
  go_enter Try.func15, Try.ntmps15
  go_wp2_with fail
  refine HN.out.mono ?_
  rintro e w1 ⟨rfl, rfl⟩
  go_wp2_with fail
  go_quiet (fail)
  go_wp2_with fail
  go_ret
  exact ⟨rfl, _, rfl⟩
theorem place_at (h : FrAt W base fg gm nm A cap F) :
    Calls Try.prog 16 #[.pointer (some ⟨fg, 0, none⟩)] W fun e w' => e = .returned (.int .i64 F.place) ∧ w' = W := by
  have hc := h.c51
  have hc1 := h.c50
  have hl := h.blk.l
  have HN := Lib.hid (none_at fg gm W hl hc)
  generalize F.place = m at *
  clear h
  go_enter Try.func16, Try.ntmps16
  go_wp2_with fail
  refine HN.out.mono ?_
  rintro e w1 ⟨rfl, rfl⟩
  go_wp2_with fail
  go_ret
  exact ⟨rfl, rfl⟩
theorem go_at (h : FrAt W base fg gm nm A cap F) (p : Int) :
    Calls Try.prog 21 #[.pointer (some ⟨fg, 0, none⟩), .int .i64 p] W fun e w' => e = .returned (.tuple #[]) ∧ w' = W.setCell ⟨fg, 50, none⟩ (.int .i64 p) := by
  have hc := h.c51
  have hc1 := h.c50
  have hf := h.blk.f 50
  have hl := h.blk.l
  have HN := Lib.hid (none_at fg gm W hl hc)
  clear h
  go_enter Try.func21, Try.ntmps21
  go_wp2_with fail
  refine HN.out.mono ?_
  rintro e w1 ⟨rfl, rfl⟩
  go_wp2_with fail
  go_end0
  exact ⟨rfl, rfl⟩
end
end Go.Proofs.Ythllfeogchbihaa
