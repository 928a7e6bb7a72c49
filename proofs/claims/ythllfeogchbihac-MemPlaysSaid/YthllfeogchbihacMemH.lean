/- Memories: the closures of Snapshot, SwapSnapshot, Announce, Publish. -/
import Derived.Test.YthllfeogchbihacMemF
namespace Go.Proofs.Ythllfeogchbihac
open Go.RowKit
set_option linter.unusedSimpArgs false
set_option linter.unusedVariables false

def zn : N7 := ⟨0, none, 0, 0⟩
def Me.swp (M : Me) (x : N7) : Me := { M with sn := x }
def Me.pub (M : Me) (i : Nat) (n : Int) : Me := { M with pr := M.pr.set i { M.proc i with pos := n } }
def Me.ann (M : Me) (i : Nat) (x : P7) : Me := { M with pr := M.pr.set i { M.proc i with s := x.s, k := x.k, m := x.m } }
section
variable {w W : World} {mg pg sg : Nat} {M : Me} {K : Nat → Prop}
theorem MemAt.nput (h : MemAt W mg pg sg M) (x : N7) {W' : World}
    (hw : W' = ((((((W.setCell ⟨mg, 2, none⟩ (.int .i64 x.i)).setCell ⟨mg, 3, none⟩ (.slice none 0 0)).setCell ⟨mg, 4, none⟩ (.slice none 0 0)).setCell ⟨mg, 5, none⟩ (.slice none 0 0)).setCell ⟨mg, 6, none⟩ (.int .i64 0)).setCell ⟨mg, 7, none⟩ (.slice none 0 0)).setCell ⟨mg, 8, none⟩ (.slice x.A x.n x.c)) :
    MemAt W' mg pg sg (M.swp x) := by
  have g0 := h.nset (q := 0) (v := .int .i64 x.i) (x := { M.sn with i := x.i }) (by decide) rfl
  have g1 := g0.nset (q := 1) (v := .slice none 0 0) (x := { M.sn with i := x.i }) (by decide) rfl
  have g2 := g1.nset (q := 2) (v := .slice none 0 0) (x := { M.sn with i := x.i }) (by decide) rfl
  have g3 := g2.nset (q := 3) (v := .slice none 0 0) (x := { M.sn with i := x.i }) (by decide) rfl
  have g4 := g3.nset (q := 4) (v := .int .i64 0) (x := { M.sn with i := x.i }) (by decide) rfl
  have g5 := g4.nset (q := 5) (v := .slice none 0 0) (x := { M.sn with i := x.i }) (by decide) rfl
  have g6 := g5.nset (q := 6) (v := .slice x.A x.n x.c) (x := x) (by decide) rfl
  rw [hw]
  exact g6
theorem MemAt.pput (h : MemAt W mg pg sg M) {i : Nat} (hi : i < M.pr.length) (n : Int) {W' : World} (hw : W' = W.setCell ⟨pg, i * 7 + 5, none⟩ (.int .i64 n)) : MemAt W' mg pg sg (M.pub i n) := by
  have g0 := h.pset hi (q := 5) (v := .int .i64 n) (x := { M.pr[i] with pos := n }) (by decide) rfl
  rw [hw]
  unfold Me.pub
  rw [Me.proc_yes hi]
  exact g0
theorem MemAt.aput (h : MemAt W mg pg sg M) {i : Nat} (hi : i < M.pr.length) (x : P7) {W' : World}
    (hw : W' = ((((W.setCell ⟨pg, i * 7, none⟩ (.int .i64 x.s)).setCell ⟨pg, i * 7 + 1, none⟩ (.int .u8 x.k)).setCell ⟨pg, i * 7 + 2, none⟩ (.int .i64 x.m)).setCell ⟨pg, i * 7 + 3, none⟩ (.slice none 0 0)).setCell ⟨pg, i * 7 + 4, none⟩ (.slice none 0 0)) :
    MemAt W' mg pg sg (M.ann i x) := by
  have g0 := h.pset hi (q := 0) (v := .int .i64 x.s) (x := { M.pr[i] with s := x.s }) (by decide) rfl
  have g1 := g0.pset (i := i) (by simpa using hi) (q := 1) (v := .int .u8 x.k) (x := { M.pr[i] with s := x.s, k := x.k }) (by decide) (by simp [P7.cs])
  have g2 := g1.pset (i := i) (by simpa using hi) (q := 2) (v := .int .i64 x.m) (x := { M.pr[i] with s := x.s, k := x.k, m := x.m }) (by decide) (by simp [P7.cs])
  have g3 := g2.pset (i := i) (by simpa using hi) (q := 3) (v := .slice none 0 0) (x := { M.pr[i] with s := x.s, k := x.k, m := x.m }) (by decide) (by simp [P7.cs])
  have g4 := g3.pset (i := i) (by simpa using hi) (q := 4) (v := .slice none 0 0) (x := { M.pr[i] with s := x.s, k := x.k, m := x.m }) (by decide) (by simp [P7.cs])
  rw [hw]
  unfold Me.ann
  rw [Me.proc_yes hi]
  simpa using g4

set_option maxRecDepth 100000 in
theorem snap_c {Y : World} {b0 b1 : Nat} (h : MemAt Y mg pg sg M) (p0 : Blk Y b0 [.pointer (some ⟨mg, 0, none⟩)]) (p1 : Blk Y b1 zn.cs) (n0 : b0 ≠ b1) (n1 : mg ≠ b1) :
    Calls Try.prog 33 #[.pointer (some ⟨b0, 0, none⟩), .pointer (some ⟨b1, 0, none⟩)] Y fun e Y' => e = .returned (.tuple #[]) ∧ Touch (fun b => b = b1) Y Y' ∧ Blk Y' b1 M.sn.cs := by
  have d0 := p0.c 0 _ rfl
  have l0 := p0.l
  have l1 := p1.l
  have lm := h.bm.l
  obtain ⟨x, hx⟩ : ∃ x, M.sn = x := ⟨_, rfl⟩
  have a0 := h.bm.c 2 _ rfl
  have a1 := h.bm.c 3 _ rfl
  have a2 := h.bm.c 4 _ rfl
  have a3 := h.bm.c 5 _ rfl
  have a4 := h.bm.c 6 _ rfl
  have a5 := h.bm.c 7 _ rfl
  have a6 := h.bm.c 8 _ rfl
  have z0 := p1.c 0 _ rfl
  have zf0 := p1.f 0
  have z1 := p1.c 1 _ rfl
  have zf1 := p1.f 1
  have z2 := p1.c 2 _ rfl
  have zf2 := p1.f 2
  have z3 := p1.c 3 _ rfl
  have zf3 := p1.f 3
  have z4 := p1.c 4 _ rfl
  have zf4 := p1.f 4
  have z5 := p1.c 5 _ rfl
  have zf5 := p1.f 5
  have z6 := p1.c 6 _ rfl
  have zf6 := p1.f 6
  have HP := Lib.hid p1
  clear h p0 p1
  rw [hx] at *
  clear hx
  go_enter Try.func33, Try.ntmps33
  go_wp2_with fail
  go_end0
  have p1 := HP.out
  exact ⟨rfl, ((((((((Touch.refl (fun b => b = b1) Y).setCell ⟨b1, 0, none⟩ (.int .i64 x.i) (fun _ => rfl)).setCell ⟨b1, 1, none⟩ (.slice none 0 0) (fun _ => rfl)).setCell ⟨b1, 2, none⟩ (.slice none 0 0) (fun _ => rfl)).setCell ⟨b1, 3, none⟩ (.slice none 0 0) (fun _ => rfl)).setCell ⟨b1, 4, none⟩ (.int .i64 0) (fun _ => rfl)).setCell ⟨b1, 5, none⟩ (.slice none 0 0) (fun _ => rfl)).setCell ⟨b1, 6, none⟩ (.slice x.A x.n x.c) (fun _ => rfl)), (((((((p1.set (j := 0) rfl (.int .i64 x.i)).set (j := 1) rfl (.slice none 0 0)).set (j := 2) rfl (.slice none 0 0)).set (j := 3) rfl (.slice none 0 0)).set (j := 4) rfl (.int .i64 0)).set (j := 5) rfl (.slice none 0 0)).set (j := 6) rfl (.slice x.A x.n x.c))⟩
set_option maxRecDepth 100000 in
theorem swaps_c {Y : World} {b0 b1 b2 b3 : Nat} {old : Int} {x : N7} (h : MemAt Y mg pg sg M) (p0 : Blk Y b0 [.pointer (some ⟨mg, 0, none⟩)]) (p1 : Blk Y b1 [.int .i64 old]) (p2 : Blk Y b2 [.bool false]) (p3 : Blk Y b3 x.cs) (n2 : ¬ MF mg pg sg b2) (n0 : b0 ≠ b2) (n1 : b1 ≠ b2) (n3 : b3 ≠ b2) (m0 : ¬ MF mg pg sg b0) (m3 : ¬ MF mg pg sg b3) :
    Calls Try.prog 32 #[.pointer (some ⟨b0, 0, none⟩), .pointer (some ⟨b1, 0, none⟩), .pointer (some ⟨b2, 0, none⟩), .pointer (some ⟨b3, 0, none⟩)] Y fun e Y' => e = .returned (.tuple #[]) ∧ Touch (fun b => b = b2 ∨ MF mg pg sg b) Y Y' ∧ Blk Y' b2 [.bool (decide (M.sn.i = old))] ∧ MemAt Y' mg pg sg (if M.sn.i = old then M.swp x else M) := by
  have k1 : mg ≠ b2 := fun e => n2 (.inl e.symm)
  have k4 : b2 ≠ mg := fun e => k1 e.symm
  have k6 : b2 ≠ b0 := fun e => n0 e.symm
  have k7 : b2 ≠ b1 := fun e => n1 e.symm
  have k8 : b2 ≠ b3 := fun e => n3 e.symm
  have k9 : b3 ≠ mg := fun e => m3 (.inl e)
  have d0 := p0.c 0 _ rfl
  have d1 := p1.c 0 _ rfl
  have d2 := p2.c 0 _ rfl
  have d2f := p2.f 0
  have l0 := p0.l
  have l1 := p1.l
  have l2 := p2.l
  have l3 := p3.l
  have lm := h.bm.l
  have HPUT := Lib.hid (fun Y1 (hm : MemAt Y1 mg pg sg M) W' hw => hm.nput x (W' := W') hw)
  obtain ⟨y, hy⟩ : ∃ y, M.sn = y := ⟨_, rfl⟩
  have a0 := h.bm.c 2 _ rfl
  have af0 := h.bm.f 2
  have e0 := p3.c 0 _ rfl
  have a1 := h.bm.c 3 _ rfl
  have af1 := h.bm.f 3
  have e1 := p3.c 1 _ rfl
  have a2 := h.bm.c 4 _ rfl
  have af2 := h.bm.f 4
  have e2 := p3.c 2 _ rfl
  have a3 := h.bm.c 5 _ rfl
  have af3 := h.bm.f 5
  have e3 := p3.c 3 _ rfl
  have a4 := h.bm.c 6 _ rfl
  have af4 := h.bm.f 6
  have e4 := p3.c 4 _ rfl
  have a5 := h.bm.c 7 _ rfl
  have af5 := h.bm.f 7
  have e5 := p3.c 5 _ rfl
  have a6 := h.bm.c 8 _ rfl
  have af6 := h.bm.f 8
  have e6 := p3.c 6 _ rfl
  have H := Lib.hid h
  have HP := Lib.hid p2
  clear h p0 p1 p2 p3
  rw [hy] at *
  clear hy
  by_cases hq : y.i = old
  · have hq1 : (y.i == old) = true := beq_iff_eq.2 hq
    rw [if_pos hq, decide_eq_true hq]
    clear hq
    go_enter Try.func32, Try.ntmps32
    go_wp2_with fail
    go_region
    go_wp2_with fail
    go_end0
    have t1 : Touch (fun b => b = b2) Y (Y.setCell ⟨b2, 0, none⟩ (.bool true)) := (Touch.refl (fun b => b = b2) Y).setCell _ _ (fun _ => rfl)
    have m1 := (HPUT.out _ (H.out.touch t1 (fun b hb e => n2 (e ▸ hb))) _ rfl).below (below_drew (Below.refl _ _))
    have q1 : Blk (Y.setCell ⟨b2, 0, none⟩ (.bool true)) b2 [.bool true] := HP.out.set (j := 0) rfl (.bool true)
    refine ⟨rfl, ?_, ?_, m1⟩
    · have t2 := ((Touch.refl (fun b => b = b2 ∨ MF mg pg sg b) Y).setCell ⟨b2, 0, none⟩ (.bool true) (fun _ => .inl rfl))
      have hs : ∀ {A : World} (j : Nat) (v : Value), Touch (fun b => b = b2 ∨ MF mg pg sg b) Y A → Touch (fun b => b = b2 ∨ MF mg pg sg b) Y (A.setCell ⟨mg, j, none⟩ v) := fun j v t => t.setCell _ _ (fun _ => .inr (.inl rfl))
      exact (hs _ _ (hs _ _ (hs _ _ (hs _ _ (hs _ _ (hs _ _ (hs _ _ t2))))))).drew
    · exact (((((((q1.other k1 _ _).other k1 _ _).other k1 _ _).other k1 _ _).other k1 _ _).other k1 _ _).other k1 _ _).drew
  · have hq1 : (y.i == old) = false := by rw [beq_eq_false_iff_ne]; exact hq
    rw [if_neg hq, decide_eq_false hq]
    clear hq
    go_enter Try.func32, Try.ntmps32
    go_wp2_with fail
    go_region
    go_wp2_with fail
    go_end0
    have t1 : Touch (fun b => b = b2) Y (Y.setCell ⟨b2, 0, none⟩ (.bool false)) := (Touch.refl (fun b => b = b2) Y).setCell _ _ (fun _ => rfl)
    have q1 : Blk (Y.setCell ⟨b2, 0, none⟩ (.bool false)) b2 [.bool false] := HP.out.set (j := 0) rfl (.bool false)
    exact ⟨rfl, Touch.drew (t1.mono (fun b _ e => .inl e)), q1.drew, (H.out.touch t1 (fun b hb e => n2 (e ▸ hb))).below (below_drew (Below.refl _ _))⟩

set_option maxRecDepth 100000 in
theorem ann_c {Y : World} {b0 b1 b2 : Nat} {i : Nat} {x : P7} (h : MemAt Y mg pg sg M) (hi : i < M.pr.length) (p0 : Blk Y b0 [.pointer (some ⟨mg, 0, none⟩)]) (p1 : Blk Y b1 [.int .i64 i]) (p2 : Blk Y b2 [.int .i64 x.s, .int .u8 x.k, .int .i64 x.m, .slice none 0 0, .slice none 0 0]) :
    Calls Try.prog 51 #[.pointer (some ⟨b2, 0, none⟩), .pointer (some ⟨b0, 0, none⟩), .pointer (some ⟨b1, 0, none⟩)] Y fun e Y' => e = .returned (.tuple #[]) ∧ Touch (fun b => MF mg pg sg b) Y Y' ∧ MemAt Y' mg pg sg (M.ann i x) := by
  have d0 := p0.c 0 _ rfl
  have d1 := p1.c 0 _ rfl
  have l0 := p0.l
  have l1 := p1.l
  have l2 := p2.l
  have lm := h.bm.l
  have ls := h.bp.l
  have c1 := h.bm.c 0 _ rfl
  have h1 := h.lp
  have i1 : (i : Int) < (M.pr.length : Int) := by omega
  have HPUT := Lib.hid (fun Y1 (hm : MemAt Y1 mg pg sg M) W' hw => hm.aput hi x (W' := W') hw)
  have H := Lib.hid h
  have a0 := h.pcell hi 0 _ (by decide) rfl
  rw [Nat.add_zero] at a0
  have af0 := h.bp.f (i * 7)
  have e0 := p2.c 0 _ rfl
  have a1 := h.pcell hi 1 _ (by decide) rfl
  have af1 := h.bp.f (i * 7 + 1)
  have e1 := p2.c 1 _ rfl
  have a2 := h.pcell hi 2 _ (by decide) rfl
  have af2 := h.bp.f (i * 7 + 2)
  have e2 := p2.c 2 _ rfl
  have a3 := h.pcell hi 3 _ (by decide) rfl
  have af3 := h.bp.f (i * 7 + 3)
  have e3 := p2.c 3 _ rfl
  have a4 := h.pcell hi 4 _ (by decide) rfl
  have af4 := h.bp.f (i * 7 + 4)
  have e4 := p2.c 4 _ rfl
  clear h p0 p1 p2
  generalize M.ann i x = R at *
  generalize M.pr[i] = y at *
  clear hi
  generalize M.pr.length = n at *
  go_enter Try.func51, Try.ntmps51
  go_wp2_with fail
  go_region
  go_wp2_with fail
  go_end0
  have m1 := (HPUT.out _ H.out _ rfl).below (below_drew (Below.refl _ _))
  refine ⟨rfl, ?_, m1⟩
  have t0 : Touch (fun b => MF mg pg sg b) Y Y := Touch.refl _ Y
  have hs : ∀ {A : World} (j : Nat) (v : Value), Touch (fun b => MF mg pg sg b) Y A → Touch (fun b => MF mg pg sg b) Y (A.setCell ⟨pg, j, none⟩ v) := fun j v t => t.setCell _ _ (fun _ => .inr (.inl rfl))
  exact (hs _ _ (hs _ _ (hs _ _ (hs _ _ (hs _ _ (t0)))))).drew

set_option maxRecDepth 100000 in
theorem pub_c {Y : World} {b0 b1 b2 : Nat} {i : Nat} {x : Int} (h : MemAt Y mg pg sg M) (hi : i < M.pr.length) (p0 : Blk Y b0 [.pointer (some ⟨mg, 0, none⟩)]) (p1 : Blk Y b1 [.int .i64 i]) (p2 : Blk Y b2 [.int .i64 x]) :
    Calls Try.prog 52 #[.pointer (some ⟨b2, 0, none⟩), .pointer (some ⟨b0, 0, none⟩), .pointer (some ⟨b1, 0, none⟩)] Y fun e Y' => e = .returned (.tuple #[]) ∧ Touch (fun b => MF mg pg sg b) Y Y' ∧ MemAt Y' mg pg sg (M.pub i x) := by
  have d0 := p0.c 0 _ rfl
  have d1 := p1.c 0 _ rfl
  have l0 := p0.l
  have l1 := p1.l
  have l2 := p2.l
  have lm := h.bm.l
  have ls := h.bp.l
  have c1 := h.bm.c 0 _ rfl
  have h1 := h.lp
  have i1 : (i : Int) < (M.pr.length : Int) := by omega
  have HPUT := Lib.hid (fun Y1 (hm : MemAt Y1 mg pg sg M) W' hw => hm.pput hi x (W' := W') hw)
  have H := Lib.hid h
  have a5 := h.pcell hi 5 _ (by decide) rfl
  have af5 := h.bp.f (i * 7 + 5)
  have e0 := p2.c 0 _ rfl
  clear h p0 p1 p2
  generalize M.pub i x = R at *
  generalize M.pr[i] = y at *
  clear hi
  generalize M.pr.length = n at *
  go_enter Try.func52, Try.ntmps52
  go_wp2_with fail
  go_region
  go_wp2_with fail
  go_end0
  have m1 := (HPUT.out _ H.out _ rfl).below (below_drew (Below.refl _ _))
  refine ⟨rfl, ?_, m1⟩
  have t0 : Touch (fun b => MF mg pg sg b) Y Y := Touch.refl _ Y
  have hs : ∀ {A : World} (j : Nat) (v : Value), Touch (fun b => MF mg pg sg b) Y A → Touch (fun b => MF mg pg sg b) Y (A.setCell ⟨pg, j, none⟩ v) := fun j v t => t.setCell _ _ (fun _ => .inr (.inl rfl))
  exact (hs _ _ (t0)).drew
end
end Go.Proofs.Ythllfeogchbihac
