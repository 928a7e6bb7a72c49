/- Memories: the swaps of a slot. -/
import Derived.Test.YthllfeogchbihacMemB
import Derived.Deep.RegionHeld3
namespace Go.Proofs.Ythllfeogchbihac
open Go.RowKit
set_option linter.unusedSimpArgs false
set_option linter.unusedVariables false

def Me.tick (M : Me) (p : Nat) : Me := { M with pr := M.pr.set p { M.proc p with st := wrap64 ((M.proc p).st + 1) } }
def Me.put (M : Me) (i : Nat) (x : S7) : Me := { M with sl := M.sl.set i x }
/-- A memory, its frame: what was there at w is untouched; K's blocks are none of its own. -/
structure MO (w W : World) (mg : Nat) (M : Me) (K : Nat → Prop) : Prop where
  ex : ∃ pg sg, MemAt W mg pg sg M ∧ w.heap.size ≤ pg ∧ w.heap.size ≤ sg ∧ ∀ b, K b → b < W.heap.size ∧ ¬ MF mg pg sg b
  bw : Below w.heap.size w W
  g1 : w.heap.size ≤ mg
def MOk (w W : World) (mg : Nat) (M : Me) (K : Nat → Prop) (W' : World) : Prop := MO w W' mg M K ∧ Touch (fun b => ¬ K b) W W'

section
variable {w W : World} {mg pg sg : Nat} {M : Me} {K : Nat → Prop}
theorem MO.below (h : MO w W mg M K) {W' : World} (hb : Below W.heap.size W W') : MO w W' mg M K := by
  obtain ⟨⟨pg, sg, h0, h1, h2, h3⟩, k1, k2⟩ := h
  exact ⟨⟨pg, sg, h0.below hb, h1, h2, fun b hk => ⟨Nat.lt_of_lt_of_le (h3 b hk).1 hb.size, (h3 b hk).2⟩⟩, below_next k1 hb, k2⟩
theorem MO.ok (h : MO w W mg M K) {W' : World} (hb : Below W.heap.size W W') : MOk w W mg M K W' := ⟨h.below hb, Touch.of_below hb (Nat.le_refl _) _⟩
theorem MO.less (h : MO w W mg M K) {K' : Nat → Prop} (hk : ∀ b, K' b → K b) : MO w W mg M K' := by
  obtain ⟨⟨pg, sg, h0, h1, h2, h3⟩, k1, k2⟩ := h
  exact ⟨⟨pg, sg, h0, h1, h2, fun b hb => h3 b (hk b hb)⟩, k1, k2⟩
theorem MO.step (h : MO w W mg M K) (h0 : MemAt W mg pg sg M) (h1 : w.heap.size ≤ pg) (h2 : w.heap.size ≤ sg) (h3 : ∀ b, K b → b < W.heap.size ∧ ¬ MF mg pg sg b) {M' : Me} {W' : World} (t : Touch (MF mg pg sg) W W') (h4 : MemAt W' mg pg sg M') : MOk w W mg M' K W' := by
  refine ⟨⟨⟨pg, sg, h4, h1, h2, fun b hk => ⟨Nat.lt_of_lt_of_le (h3 b hk).1 t.size, (h3 b hk).2⟩⟩, h.bw.trans (t.below h.bw.size ?_), h.g1⟩, t.mono (fun b _ e hk => (h3 b hk).2 e)⟩
  have := h.g1
  rintro b (rfl | rfl | rfl) <;> assumption
theorem MemAt.tick (h : MemAt W mg pg sg M) {i : Nat} (hi : i < M.pr.length) : MemAt (W.setCell ⟨pg, i * 7 + 6, none⟩ (.int .i64 (wrap64 ((M.pr[i]).st + 1)))) mg pg sg (M.tick i) := by
  have h1 := h.pset hi (q := 6) (v := .int .i64 (wrap64 ((M.pr[i]).st + 1))) (x := { M.pr[i] with st := wrap64 ((M.pr[i]).st + 1) }) (by decide) rfl
  unfold Me.tick
  rw [Me.proc_yes hi]
  exact h1
theorem MemAt.sput (h : MemAt W mg pg sg M) {i : Nat} (hi : i < M.sl.length) (x : S7) {W' : World}
    (hw : W' = ((((((W.setCell ⟨sg, i * 7, none⟩ (.int .i64 x.i)).setCell ⟨sg, i * 7 + 1, none⟩ (.int .i64 x.p)).setCell ⟨sg, i * 7 + 2, none⟩ (.int .i64 x.s)).setCell ⟨sg, i * 7 + 3, none⟩ (.int .u8 x.k)).setCell ⟨sg, i * 7 + 4, none⟩ (.int .i64 x.m)).setCell ⟨sg, i * 7 + 5, none⟩ (.slice none 0 0)).setCell ⟨sg, i * 7 + 6, none⟩ (.slice none 0 0)) :
    MemAt W' mg pg sg (M.put i x) := by
  have g0 := h.sset hi (q := 0) (v := .int .i64 x.i) (x := { M.sl[i] with i := x.i }) (by decide) rfl
  have g1 := g0.sset (i := i) (by simpa using hi) (q := 1) (v := .int .i64 x.p) (x := { M.sl[i] with i := x.i, p := x.p }) (by decide) (by simp [S7.cs])
  have g2 := g1.sset (i := i) (by simpa using hi) (q := 2) (v := .int .i64 x.s) (x := { M.sl[i] with i := x.i, p := x.p, s := x.s }) (by decide) (by simp [S7.cs])
  have g3 := g2.sset (i := i) (by simpa using hi) (q := 3) (v := .int .u8 x.k) (x := { M.sl[i] with i := x.i, p := x.p, s := x.s, k := x.k }) (by decide) (by simp [S7.cs])
  have g4 := g3.sset (i := i) (by simpa using hi) (q := 4) (v := .int .i64 x.m) (x := x) (by decide) (by simp [S7.cs])
  have g5 := g4.sset (i := i) (by simpa using hi) (q := 5) (v := .slice none 0 0) (x := x) (by decide) (by simp [S7.cs])
  have g6 := g5.sset (i := i) (by simpa using hi) (q := 6) (v := .slice none 0 0) (x := x) (by decide) (by simp [S7.cs])
  rw [hw]
  simpa [Me.put] using g6

/-- What the closure of a swap finds. -/
structure SwapIn (Y : World) (b0 b1 b2 b3 b4 mg : Nat) (at_ : Int) (old next : S7) : Prop where
  p0 : Blk Y b0 [.pointer (some ⟨mg, 0, none⟩)]
  p1 : Blk Y b1 [.int .i64 at_]
  p2 : Blk Y b2 old.cs
  p3 : Blk Y b3 next.cs
  p4 : Blk Y b4 [.bool false]
theorem swap_c {Y : World} {b0 b1 b2 b3 b4 : Nat} {i : Nat} {old next : S7} (h : MemAt Y mg pg sg M) (hi : i < M.sl.length) (hs : SwapIn Y b0 b1 b2 b3 b4 mg i old next) (n4 : ¬ MF mg pg sg b4) (n0 : b0 ≠ b4) (n1 : b1 ≠ b4) (n2 : b2 ≠ b4) (n3 : b3 ≠ b4) :
    Calls Try.prog 31 #[.pointer (some ⟨b0, 0, none⟩), .pointer (some ⟨b1, 0, none⟩), .pointer (some ⟨b2, 0, none⟩), .pointer (some ⟨b4, 0, none⟩), .pointer (some ⟨b3, 0, none⟩)] Y fun e Y' => e = .returned (.tuple #[]) ∧
      Touch (fun b => b = b4 ∨ MF mg pg sg b) Y Y' ∧ Blk Y' b4 [.bool (decide ((M.sl[i]).i = old.i))] ∧ MemAt Y' mg pg sg (if (M.sl[i]).i = old.i then M.put i next else M) := by
  have k1 : mg ≠ b4 := fun e => n4 (.inl e.symm)
  have k2 : pg ≠ b4 := fun e => n4 (.inr (.inl e.symm))
  have k3 : sg ≠ b4 := fun e => n4 (.inr (.inr e.symm))
  have k4 : b4 ≠ mg := fun e => k1 e.symm
  have k5 : b4 ≠ sg := fun e => k3 e.symm
  have k6 : b4 ≠ b0 := fun e => n0 e.symm
  have k7 : b4 ≠ b1 := fun e => n1 e.symm
  have k8 : b4 ≠ b2 := fun e => n2 e.symm
  have k9 : b4 ≠ b3 := fun e => n3 e.symm
  have d0 := hs.p0.c 0 _ rfl
  have d1 := hs.p1.c 0 _ rfl
  have d2 := hs.p2.c 0 _ rfl
  have d4 := hs.p4.c 0 _ rfl
  have d4f := hs.p4.f 0
  have l0 := hs.p0.l
  have l1 := hs.p1.l
  have l2 := hs.p2.l
  have l3 := hs.p3.l
  have l4 := hs.p4.l
  have lm := h.bm.l
  have ls := h.bs.l
  have c1 := h.bm.c 1 _ rfl
  have a0 := h.scell hi 0 _ (by decide) rfl
  rw [Nat.add_zero] at a0
  have h1 := h.ls
  have i1 : (i : Int) < (M.sl.length : Int) := by omega
  have H := Lib.hid h
  have HS := Lib.hid hs
  have HI := Lib.hid hi
  have e0 := hs.p3.c 0 _ rfl
  have e1 := hs.p3.c 1 _ rfl
  have e2 := hs.p3.c 2 _ rfl
  have e3 := hs.p3.c 3 _ rfl
  have e4 := hs.p3.c 4 _ rfl
  have e5 := hs.p3.c 5 _ rfl
  have e6 := hs.p3.c 6 _ rfl
  have f0 := h.bs.f (i * 7)
  have f1 := h.bs.f (i * 7 + 1)
  have f2 := h.bs.f (i * 7 + 2)
  have f3 := h.bs.f (i * 7 + 3)
  have f4 := h.bs.f (i * 7 + 4)
  have f5 := h.bs.f (i * 7 + 5)
  have f6 := h.bs.f (i * 7 + 6)
  have a1 := h.scell hi 1 _ (by decide) rfl
  have a2 := h.scell hi 2 _ (by decide) rfl
  have a3 := h.scell hi 3 _ (by decide) rfl
  have a4 := h.scell hi 4 _ (by decide) rfl
  have a5 := h.scell hi 5 _ (by decide) rfl
  have a6 := h.scell hi 6 _ (by decide) rfl
  have HPUT := Lib.hid (fun Y1 (hm : MemAt Y1 mg pg sg M) W' hw => hm.sput hi next (W' := W') hw)
  clear h hs HI
  generalize M.sl[i] = x at *
  generalize M.sl.length = n at *
  by_cases hq : x.i = old.i
  · have hq1 : (x.i == old.i) = true := beq_iff_eq.2 hq
    rw [if_pos hq, decide_eq_true hq]
    clear hq
    go_enter Try.func31, Try.ntmps31
    go_wp2_with fail
    go_region
    go_wp2_with fail
    go_region
    go_wp2_with fail
    go_end0
    have t1 : Touch (fun b => b = b4) Y (Y.setCell ⟨b4, 0, none⟩ (.bool true)) := (Touch.refl (fun b => b = b4) Y).setCell _ _ (fun _ => rfl)
    have m1 := HPUT.out _ (H.out.touch t1 (fun b hb e => n4 (e ▸ hb))) _ rfl
    have q1 : Blk (Y.setCell ⟨b4, 0, none⟩ (.bool true)) b4 [.bool true] := HS.out.p4.set (j := 0) rfl (.bool true)
    refine ⟨rfl, ?_, ?_, m1.below (below_drew (below_drew (Below.refl _ _)))⟩
    · refine Touch.drew (Touch.drew ?_)
      have t2 := (Touch.refl (fun b => b = b4 ∨ MF mg pg sg b) Y).setCell ⟨b4, 0, none⟩ (.bool true) (fun _ => .inl rfl)
      have hs : ∀ {A : World} (j : Nat) (v : Value), Touch (fun b => b = b4 ∨ MF mg pg sg b) Y A → Touch (fun b => b = b4 ∨ MF mg pg sg b) Y (A.setCell ⟨sg, j, none⟩ v) := fun j v t => t.setCell _ _ (fun _ => .inr (.inr (.inr rfl)))
      exact hs _ _ (hs _ _ (hs _ _ (hs _ _ (hs _ _ (hs _ _ (hs _ _ t2))))))
    · exact ((((((((q1.other k3 _ _).other k3 _ _).other k3 _ _).other k3 _ _).other k3 _ _).other k3 _ _).other k3 _ _).drew).drew
  · have hq1 : (x.i == old.i) = false := by rw [beq_eq_false_iff_ne]; exact hq
    rw [if_neg hq, decide_eq_false hq]
    clear hq
    go_enter Try.func31, Try.ntmps31
    go_wp2_with fail
    go_region
    go_wp2_with fail
    go_end0
    have t1 : Touch (fun b => b = b4) Y (Y.setCell ⟨b4, 0, none⟩ (.bool false)) := (Touch.refl (fun b => b = b4) Y).setCell _ _ (fun _ => rfl)
    have q1 : Blk (Y.setCell ⟨b4, 0, none⟩ (.bool false)) b4 [.bool false] := HS.out.p4.set (j := 0) rfl (.bool false)
    exact ⟨rfl, Touch.drew (t1.mono (fun b _ e => .inl e)), q1.drew, (H.out.touch t1 (fun b hb e => n4 (e ▸ hb))).below (below_drew (Below.refl _ _))⟩
end
end Go.Proofs.Ythllfeogchbihac
