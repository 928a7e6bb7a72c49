/- Memories (package mem): what lies in memory, and the contracts of the small functions. -/
import Derived.Test.YthllfeogchbihacTouch
import Derived.WalkLawsBesides
import Derived.KernelRfl
import Derived.Lib.Hide
import Derived.Handy
import Derived.Deep.QuietTactic
import Derived.BigQuiet
import Derived.WalkSmall
import Derived.WalkSpells
import Derived.IntWalk
import Derived.Defers
namespace Go.Proofs.Ythllfeogchbihac
open Go.RowKit
set_option linter.unusedSimpArgs false
set_option linter.unusedVariables false

def I64 (x : Int) : Prop := -9223372036854775808 ≤ x ∧ x ≤ 9223372036854775807
/-- A slot: its Index; its entry's process and number, its operation's kind and method (nobody here hands in arguments). -/
structure S7 where
  i : Int
  p : Int
  s : Int
  k : Int
  m : Int
def S7.cs (x : S7) : List Value := [.int .i64 x.i, .int .i64 x.p, .int .i64 x.s, .int .u8 x.k, .int .i64 x.m, .slice none 0 0, .slice none 0 0]
/-- A process: its announcement (number, kind, method), its position, its steps. -/
structure P7 where
  s : Int
  k : Int
  m : Int
  pos : Int
  st : Int
def P7.cs (x : P7) : List Value := [.int .i64 x.s, .int .u8 x.k, .int .i64 x.m, .slice none 0 0, .slice none 0 0, .int .i64 x.pos, .int .i64 x.st]
/-- The snapshot: its position, and its numbers' slice. -/
structure N7 where
  i : Int
  A : Option Addr
  n : Nat
  c : Nat
def N7.cs (x : N7) : List Value := [.int .i64 x.i, .slice none 0 0, .slice none 0 0, .slice none 0 0, .int .i64 0, .slice none 0 0, .slice x.A x.n x.c]
structure Me where
  pr : List P7
  sl : List S7
  sn : N7
def scs (l : List S7) : List Value := l.flatMap S7.cs
def pcs (l : List P7) : List Value := l.flatMap P7.cs

theorem cat_len {α : Type} (f : α → List Value) (hf : ∀ x, (f x).length = 7) (l : List α) : (l.flatMap f).length = l.length * 7 := by
  induction l with
  | nil => rfl
  | cons x l ih => rw [List.flatMap_cons, List.length_append, ih, hf, List.length_cons]; omega
theorem cat_get {α : Type} (f : α → List Value) (hf : ∀ x, (f x).length = 7) (l : List α) : ∀ i (hi : i < l.length) q, q < 7 → (l.flatMap f)[i * 7 + q]? = (f l[i])[q]? := by
  induction l with
  | nil => intro i hi; simp at hi
  | cons x l ih =>
    intro i hi q hq
    rw [List.flatMap_cons]
    cases i with
    | zero => rw [List.getElem?_append_left (by rw [hf]; omega)]; simp
    | succ i =>
      rw [List.getElem?_append_right (by rw [hf]; omega), hf, show (i + 1) * 7 + q - 7 = i * 7 + q by omega, ih i (by simpa using hi) q hq]
      simp
theorem cat_set {α : Type} (f : α → List Value) (hf : ∀ x, (f x).length = 7) (l : List α) : ∀ i (hi : i < l.length) q v (x' : α), q < 7 → (f l[i]).set q v = f x' → (l.flatMap f).set (i * 7 + q) v = (l.set i x').flatMap f := by
  induction l with
  | nil => intro i hi; simp at hi
  | cons x l ih =>
    intro i hi q v x' hq h
    rw [List.flatMap_cons]
    cases i with
    | zero =>
      rw [List.set_append_left _ _ (by rw [hf]; omega), List.set_cons_zero, List.flatMap_cons]
      simp only [Nat.zero_mul, Nat.zero_add]
      rw [← h]
      simp
    | succ i =>
      rw [List.set_append_right _ _ (by rw [hf]; omega), hf, show (i + 1) * 7 + q - 7 = i * 7 + q by omega, List.set_cons_succ, List.flatMap_cons, ih i (by simpa using hi) q v x' hq (by simpa using h)]
theorem scs_len (l : List S7) : (scs l).length = l.length * 7 := cat_len S7.cs (fun _ => rfl) l
theorem pcs_len (l : List P7) : (pcs l).length = l.length * 7 := cat_len P7.cs (fun _ => rfl) l

/-- A memory that was made. -/
structure MemAt (W : World) (mg pg sg : Nat) (M : Me) : Prop where
  bm : Blk W mg (.slice (some ⟨pg, 0, none⟩) M.pr.length M.pr.length :: .slice (some ⟨sg, 0, none⟩) M.sl.length M.sl.length :: M.sn.cs)
  bp : Blk W pg (pcs M.pr)
  bs : Blk W sg (scs M.sl)
  n1 : mg ≠ pg
  n2 : mg ≠ sg
  n3 : pg ≠ sg
  lp : M.pr.length ≤ 64
  ls : M.sl.length ≤ 256
def MF (mg pg sg : Nat) : Nat → Prop := fun b => b = mg ∨ b = pg ∨ b = sg
section
variable {W : World} {mg pg sg : Nat} {M : Me}
theorem MemAt.touch (h : MemAt W mg pg sg M) {S : Nat → Prop} {W' : World} (t : Touch S W W') (hs : ∀ b, MF mg pg sg b → ¬ S b) : MemAt W' mg pg sg M :=
  { h with bm := h.bm.touch t (hs _ (.inl rfl)), bp := h.bp.touch t (hs _ (.inr (.inl rfl))), bs := h.bs.touch t (hs _ (.inr (.inr rfl))) }
theorem MemAt.below (h : MemAt W mg pg sg M) {W' : World} (hb : Below W.heap.size W W') : MemAt W' mg pg sg M :=
  h.touch (Touch.of_below hb (Nat.le_refl _) (fun _ => False)) (fun _ _ e => e)
theorem MemAt.foot (h : MemAt W mg pg sg M) : ∀ b, MF mg pg sg b → b < W.heap.size := by
  rintro b (rfl | rfl | rfl)
  · exact h.bm.l
  · exact h.bp.l
  · exact h.bs.l
theorem MemAt.pcell (h : MemAt W mg pg sg M) {i : Nat} (hi : i < M.pr.length) : ∀ q v, q < 7 → (M.pr[i]).cs[q]? = some v → W.cell? ⟨pg, i * 7 + q, none⟩ = some v := by
  intro q v hq hv
  exact h.bp.c _ _ (by rw [pcs, cat_get P7.cs (fun _ => rfl) _ i hi q hq]; exact hv)
theorem MemAt.scell (h : MemAt W mg pg sg M) {i : Nat} (hi : i < M.sl.length) : ∀ q v, q < 7 → (M.sl[i]).cs[q]? = some v → W.cell? ⟨sg, i * 7 + q, none⟩ = some v := by
  intro q v hq hv
  exact h.bs.c _ _ (by rw [scs, cat_get S7.cs (fun _ => rfl) _ i hi q hq]; exact hv)
/-- One cell of a process is changed. -/
theorem MemAt.pset (h : MemAt W mg pg sg M) {i : Nat} (hi : i < M.pr.length) {q : Nat} {v : Value} {x : P7} (hq : q < 7) (hx : (M.pr[i]).cs.set q v = x.cs) : MemAt (W.setCell ⟨pg, i * 7 + q, none⟩ v) mg pg sg { M with pr := M.pr.set i x } := by
  have hl : i * 7 + q < (pcs M.pr).length := by rw [pcs_len]; omega
  have e := cat_set P7.cs (fun _ => rfl) M.pr i hi q v x hq hx
  have h1 := h.bm.other (b' := pg) (fun e => h.n1 e.symm) (i * 7 + q) v
  have h2 := h.bp.set (List.getElem?_eq_getElem hl) v
  rw [show (pcs M.pr).set (i * 7 + q) v = pcs (M.pr.set i x) from e] at h2
  exact { h with bm := by simpa using h1, bp := h2, bs := h.bs.other (b' := pg) h.n3 _ _, lp := by simpa using h.lp }
theorem MemAt.sset (h : MemAt W mg pg sg M) {i : Nat} (hi : i < M.sl.length) {q : Nat} {v : Value} {x : S7} (hq : q < 7) (hx : (M.sl[i]).cs.set q v = x.cs) : MemAt (W.setCell ⟨sg, i * 7 + q, none⟩ v) mg pg sg { M with sl := M.sl.set i x } := by
  have hl : i * 7 + q < (scs M.sl).length := by rw [scs_len]; omega
  have e := cat_set S7.cs (fun _ => rfl) M.sl i hi q v x hq hx
  have h1 := h.bm.other (b' := sg) (fun e => h.n2 e.symm) (i * 7 + q) v
  have h2 := h.bs.set (List.getElem?_eq_getElem hl) v
  rw [show (scs M.sl).set (i * 7 + q) v = scs (M.sl.set i x) from e] at h2
  exact { h with bm := by simpa using h1, bs := h2, bp := h.bp.other (b' := sg) (fun e => h.n3 e.symm) _ _, ls := by simpa using h.ls }
/-- One cell of the snapshot is changed. -/
theorem MemAt.nset (h : MemAt W mg pg sg M) {q : Nat} {v : Value} {x : N7} (hq : q < 7) (hx : M.sn.cs.set q v = x.cs) : MemAt (W.setCell ⟨mg, q + 2, none⟩ v) mg pg sg { M with sn := x } := by
  have hl : q < M.sn.cs.length := hq
  have h1 := h.bm.set (j := q + 2) (u := M.sn.cs[q]) (by simp [List.getElem?_eq_getElem hl]) v
  simp only [List.set_cons_succ] at h1
  rw [hx] at h1
  exact { h with bm := h1, bp := h.bp.other h.n1 _ _, bs := h.bs.other h.n2 _ _ }

/-! Calls that only read. -/
theorem procs_at (h : MemAt W mg pg sg M) : Calls Try.prog 26 #[.pointer (some ⟨mg, 0, none⟩)] W fun e W' => e = .returned (.int .i64 M.pr.length) ∧ W' = W := by
  have c0 := h.bm.c 0 _ rfl
  have hl := h.bm.l
  have h1 := h.lp
  clear h
  go_enter Try.func26, Try.ntmps26
  go_wp2_with fail
  go_ret
  exact ⟨rfl, rfl⟩
theorem arena_at (h : MemAt W mg pg sg M) : Calls Try.prog 27 #[.pointer (some ⟨mg, 0, none⟩)] W fun e W' => e = .returned (.int .i64 M.sl.length) ∧ W' = W := by
  have c0 := h.bm.c 1 _ rfl
  have hl := h.bm.l
  have h1 := h.ls
  clear h
  go_enter Try.func27, Try.ntmps27
  go_wp2_with fail
  go_ret
  exact ⟨rfl, rfl⟩
def hasB (n : Nat) (p : Int) : Bool := decide (0 ≤ p ∧ p < n)
theorem has_at (h : MemAt W mg pg sg M) (p : Int) : Calls Try.prog 47 #[.pointer (some ⟨mg, 0, none⟩), .int .i64 p] W fun e W' => e = .returned (.bool (hasB M.pr.length p)) ∧ W' = W := by
  have hp := procs_at h
  have HP := Lib.hid hp
  clear hp h
  obtain ⟨q, hq⟩ : ∃ q, hasB M.pr.length p = q := ⟨_, rfl⟩
  rw [hq]
  have HQ := Lib.hid hq
  clear hq
  generalize M.pr.length = n at *
  by_cases h0 : 0 ≤ p
  · go_enter Try.func47, Try.ntmps47
    go_wp2_with fail
    refine HP.out.mono ?_
    rintro e w1 ⟨rfl, rfl⟩
    go_wp2_with fail
    go_ret
    refine ⟨?_, rfl⟩
    rw [← HQ.out]
    unfold hasB
    congr 2
    simp [h0]
  · have h1 : decide (0 ≤ p) = false := decide_eq_false h0
    go_enter Try.func47, Try.ntmps47
    go_wp2_with fail
    go_ret
    refine ⟨?_, rfl⟩
    rw [← HQ.out]
    unfold hasB
    rw [decide_eq_false (fun e => by omega)]
    rfl
theorem place_at (h : MemAt W mg pg sg M) (p : Int) : Calls Try.prog 30 #[.pointer (some ⟨mg, 0, none⟩), .int .i64 p] W fun e W' => e = .returned (.bool (hasB M.sl.length p)) ∧ W' = W := by
  have hp := arena_at h
  have HP := Lib.hid hp
  clear hp h
  obtain ⟨q, hq⟩ : ∃ q, hasB M.sl.length p = q := ⟨_, rfl⟩
  rw [hq]
  have HQ := Lib.hid hq
  clear hq
  generalize M.sl.length = n at *
  by_cases h0 : 0 ≤ p
  · go_enter Try.func30, Try.ntmps30
    go_wp2_with fail
    refine HP.out.mono ?_
    rintro e w1 ⟨rfl, rfl⟩
    go_wp2_with fail
    go_ret
    refine ⟨?_, rfl⟩
    rw [← HQ.out]
    unfold hasB
    congr 2
    simp [h0]
  · have h1 : decide (0 ≤ p) = false := decide_eq_false h0
    go_enter Try.func30, Try.ntmps30
    go_wp2_with fail
    go_ret
    refine ⟨?_, rfl⟩
    rw [← HQ.out]
    unfold hasB
    rw [decide_eq_false (fun e => by omega)]
    rfl
end
end Go.Proofs.Ythllfeogchbihac
