/- Parts of the walk, joined. -/
import Derived.Test.YtkhgpeejmbfmjaaPart05
import Derived.Deep.RegionHeld3
import Derived.Deep.DeepCutAuto
import Derived.StillTailTactics
import Derived.BigQuiet
import Derived.Deep.QuietTactic
import Derived.RegionTactic
import Derived.ChangeAlike
/- The run in memory: complex. -/
namespace Go.Proofs.Ytkhgpeejmbfmjaa
open Go.RowKit
set_option linter.unusedSimpArgs false
set_option linter.unusedVariables false
set_option maxRecDepth 100000
section
variable {w0 W : World} {X : Sx} {rb : Nat} {fgs : List Nat} {c : Nat} {s : Mc} {K : Nat → Prop} {fg : Nat}

theorem bothV_ok (re im : Int → Int → Int → Int → Int) (a b c d : Int) (h : (bothV re im a b c d).2.2 = true) : VOk (2, (bothV re im a b c d).1, (bothV re im a b c d).2.1) := by
  unfold VOk I64
  unfold bothV mayB at *
  split at h
  · rename_i h1
    rw [if_pos h1]
    simp only [Bool.and_eq_true, decide_eq_true_eq] at h1
    dsimp only
    omega
  · cases h
/-- With new blocks, its number known. -/
theorem Rk.under {W0 W1 : World} {K0 K1 : Nat → Prop} (h : Rk w0 W0 K0 W1 K1 X rb fgs c s) {V : World} (hb : Below W1.heap.size W1 V) : Rk w0 W0 K0 V (fun b => K1 b ∨ (W1.heap.size ≤ b ∧ b < V.heap.size)) X rb fgs c s :=
  ⟨h.r.below hb, h.t.trans' (Touch.of_below hb (Nat.le_refl _) (fun _ => False)) (fun _ _ e => e.elim), fun b e => .inl (h.k b e), h.n, h.z⟩
theorem RunK.cell {W1 : World} {K1 : Nat → Prop} (h : RunK w0 W X rb fgs c s K1 W1) {b : Nat} (hk : K1 b) (hl : b < W.heap.size) (o : Nat) : W1.cell? ⟨b, o, none⟩ = W.cell? ⟨b, o, none⟩ := h.2.cell hl (fun e => e hk)
theorem RunK.frozen {W1 : World} {K1 : Nat → Prop} (h : RunK w0 W X rb fgs c s K1 W1) {b : Nat} (hk : K1 b) (hl : b < W.heap.size) (o : Nat) : W1.frozen? ⟨b, o, none⟩ = W.frozen? ⟨b, o, none⟩ := h.2.frozen hl (fun e => e hk)
theorem complex_21 (h : RunAt w0 W X rb fgs c s K) (hf : Topf fgs fg) : Calls Try.prog 42 #[.pointer (some ⟨rb, 0, none⟩), .pointer (some ⟨fg, 0, none⟩), .int .u8 21] W fun e W' => e = .returned (.int .i64 (s.pair.2.pushed (conjV s.pair.1.1 s.pair.1.2)).1) ∧ RunK w0 W X rb fgs c (s.pair.2.pushed (conjV s.pair.1.1 s.pair.1.2)).2 K W' := by
  have HP := Lib.hid (pair_at h hf)
  generalize s.pair = p at *
  obtain ⟨⟨q1, q2⟩, s1⟩ := p
  dsimp only at *
  have HV : Hid ((conjV q1 q2).2.2 = true → VOk (2, (conjV q1 q2).1, (conjV q1 q2).2.1)) := Lib.hid (bothV_ok _ _ _ _ _ _)
  have HF := Lib.hid hf
  have HG := Lib.hid (fun w => conj_any q1 q2 w)
  generalize conjV q1 q2 = r at *
  obtain ⟨r1, r2, r3⟩ := r
  dsimp only at *
  have HR := Lib.hid h.rk0
  clear h hf
  go_enter Try.func42, Try.ntmps42
  go_wp2_with fail
  refine HP.out.mono ?_
  rintro e w2 ⟨rfl, hR⟩
  have R2 := HR.out.call hR
  obtain ⟨K3, R3, k3, k7⟩ := R2.alloc (.cells #[.int .i64 q1, .int .i64 q2] 100)
  have HR3 := Lib.hid R3
  clear hR HR R2 R3 k3 k7
  go_wp2_with fail
  refine (HG.out _).mono ?_
  rintro e w3 ⟨rfl, hb⟩
  obtain ⟨K4, R4, -, -⟩ := HR3.out.below hb
  obtain ⟨K5, R5, -, -⟩ := R4.alloc (.cells #[.int .i64 r1, .int .i64 r2] 100)
  have HC := Lib.hid (pushed_at R5.r HF.out r1 r2 r3 HV.out)
  have HR5 := Lib.hid R5
  clear hb R4 R5 HR3
  go_wp2_with fail
  refine HC.out.mono ?_
  rintro e w4 ⟨rfl, hR⟩
  have HB := Lib.hid (HR5.out.call hR).done
  clear hR HR5
  go_wp2_with fail
  go_ret
  exact ⟨rfl, HB.out⟩
/-- A pair's block. -/
def KQ (t : Nat) (q1 q2 : Int) (w : World) : Prop := w.cell? ⟨t, 0, none⟩ = some (.int .i64 q1) ∧ w.cell? ⟨t, 1, none⟩ = some (.int .i64 q2)
theorem kq_lt {t : Nat} {q1 q2 : Int} {w : World} (h : KQ t q1 q2 w) : t < w.heap.size := World.block_lt_of_cell? w ⟨t, 0, none⟩ h.1
theorem kq_drew {t : Nat} {q1 q2 : Int} {w : World} (h : KQ t q1 q2 w) : KQ t q1 q2 w.drew := h
theorem kq_below {t : Nat} {q1 q2 : Int} {w w' : World} (h : KQ t q1 q2 w) (hb : Below w.heap.size w w') : KQ t q1 q2 w' := ⟨(hb.cell (p := ⟨t, 0, none⟩) (kq_lt h)).trans h.1, (hb.cell (p := ⟨t, 1, none⟩) (kq_lt h)).trans h.2⟩
theorem kq_alloc {t : Nat} {q1 q2 : Int} {w : World} (h : KQ t q1 q2 w) (o : Obj) : KQ t q1 q2 (w.alloc o) := kq_below h ((Below.refl _ _).alloc (Nat.le_refl _) o)
theorem kq_set {t : Nat} {q1 q2 : Int} {w : World} (h : KQ t q1 q2 w) {b : Nat} (hb : b ≠ t) (j : Nat) (v : Value) : KQ t q1 q2 (w.setCell ⟨b, j, none⟩ v) :=
  ⟨(World.cell?_setCell_other _ _ _ _ (by intro e; injection e with e1; omega)).trans h.1, (World.cell?_setCell_other _ _ _ _ (by intro e; injection e with e1; omega)).trans h.2⟩
theorem kq_call {t : Nat} {q1 q2 : Int} {W1 : World} {K1 : Nat → Prop} (h : RunK w0 W X rb fgs c s K1 W1) (hk : K1 t) (hp : KQ t q1 q2 W) : KQ t q1 q2 W1 := ⟨(h.cell hk (kq_lt hp) 0).trans hp.1, (h.cell hk (kq_lt hp) 1).trans hp.2⟩
def CpxAt (w0 W : World) (K : Nat → Prop) (X : Sx) (rb : Nat) (fgs : List Nat) (c : Nat) (s : Mc) (r1 r2 : Int) (V : World) (b : Nat) : Prop := ∃ K', Rk w0 W K V K' X rb fgs c s ∧ Blk V b [.int .i64 r1, .int .i64 r2]

section
variable {W0 w3 w4 w5 V : World} {K0 K3 : Nat → Prop} {c1 : Nat} {fgs1 : List Nat} {s1 s2 : Mc} {r1 r2 z1 z2 : Int}
theorem cpx_1 (R3 : Rk w0 W K w3 K3 X rb fgs1 c1 s1) (hR : RunK w0 w3.drew X rb fgs c s2 (fun b => K3 b ∨ (w3.heap.size ≤ b ∧ b < w3.drew.heap.size)) w4) (hb : Below w4.heap.size w4 w5) : CpxAt w0 W K X rb fgs c s2 r1 r2 (w5.alloc (.cells #[.int .i64 r1, .int .i64 r2] 100)) w5.heap.size := by
  have R4 := (R3.under (below_drew (Below.refl _ _))).call hR
  obtain ⟨K5, R5, -, -⟩ := R4.below hb
  obtain ⟨K6, R6, -, -⟩ := R5.alloc (.cells #[.int .i64 r1, .int .i64 r2] 100)
  exact ⟨K6, R6, Blk.new _ _ _⟩
theorem cpx_2 (R3 : Rk w0 W K w3 K3 X rb fgs1 c1 s1) (hR : RunK w0 w3.drew X rb fgs c s2 (fun b => K3 b ∨ (w3.heap.size ≤ b ∧ b < w3.drew.heap.size)) w4) (hb : Below (w4.alloc (.cells #[.int .i64 z1, .int .i64 z2] 100)).heap.size (w4.alloc (.cells #[.int .i64 z1, .int .i64 z2] 100)) w5) :
    CpxAt w0 W K X rb fgs c s2 r1 r2 ((w5.setCell ⟨w4.heap.size, 0, none⟩ (.int .i64 r1)).setCell ⟨w4.heap.size, 1, none⟩ (.int .i64 r2)) w4.heap.size := by
  have R4 := (R3.under (below_drew (Below.refl _ _))).call hR
  obtain ⟨K5, R5, -, k5⟩ := R4.alloc (.cells #[.int .i64 z1, .int .i64 z2] 100)
  have B5 := (Blk.new w4 #[.int .i64 z1, .int .i64 z2] 100).below hb
  obtain ⟨K6, R6, k6, -⟩ := R5.below hb
  have hn := R4.t.size
  exact ⟨K6, (R6.set (k6 _ k5) hn 0 _).set (k6 _ k5) hn 1 _, (B5.set (j := 0) rfl (.int .i64 r1)).set (j := 1) rfl (.int .i64 r2)⟩
theorem cpx_3 (R3 : Rk w0 W K w3 K3 X rb fgs1 c1 s1) (hV : V = (w3.alloc (.cells #[.int .i64 z1, .int .i64 z2] 100)).drew) (hR : RunK w0 V X rb fgs c s2 (fun b => K3 b ∨ (w3.heap.size ≤ b ∧ b < V.heap.size)) w4) (hb : Below w4.heap.size w4 w5) :
    CpxAt w0 W K X rb fgs c s2 r1 r2 ((w5.setCell ⟨w3.heap.size, 0, none⟩ (.int .i64 r1)).setCell ⟨w3.heap.size, 1, none⟩ (.int .i64 r2)) w3.heap.size := by
  have hb3 : Below w3.heap.size w3 V := by rw [hV]; exact below_drew ((Below.refl _ _).alloc (Nat.le_refl _) _)
  have R4 := (R3.under hb3).call hR
  have B5 : Blk V w3.heap.size [.int .i64 z1, .int .i64 z2] := by rw [hV]; exact (Blk.new w3 #[.int .i64 z1, .int .i64 z2] 100).drew
  have k5 : K3 w3.heap.size ∨ (w3.heap.size ≤ w3.heap.size ∧ w3.heap.size < V.heap.size) := .inr ⟨Nat.le_refl _, B5.l⟩
  have B6 := (B5.touch hR.2 (fun e => e k5)).below hb
  obtain ⟨K6, R6, k6, -⟩ := R4.below hb
  have hn := R3.t.size
  exact ⟨K6, (R6.set (k6 _ k5) hn 0 _).set (k6 _ k5) hn 1 _, (B6.set (j := 0) rfl (.int .i64 r1)).set (j := 1) rfl (.int .i64 r2)⟩
end

set_option maxHeartbeats 4000000 in
theorem complex_19 (h : RunAt w0 W X rb fgs c s K) (hf : Topf fgs fg) : Calls Try.prog 42 #[.pointer (some ⟨rb, 0, none⟩), .pointer (some ⟨fg, 0, none⟩), .int .u8 19] W fun e W' => e = .returned (.int .i64 (s.pair.2.pair.2.pushed (addV s.pair.2.pair.1.1 s.pair.2.pair.1.2 s.pair.1.1 s.pair.1.2)).1) ∧ RunK w0 W X rb fgs c (s.pair.2.pair.2.pushed (addV s.pair.2.pair.1.1 s.pair.2.pair.1.2 s.pair.1.1 s.pair.1.2)).2 K W' := by
  have HP := Lib.hid (pair_at h hf)
  generalize s.pair = p at *
  obtain ⟨⟨q1, q2⟩, s1⟩ := p
  dsimp only at *
  obtain ⟨⟨⟨p1, p2⟩, s2⟩, hp⟩ : ∃ p, s1.pair = p := ⟨_, rfl⟩
  rw [hp]
  have HP2 := Lib.hid hp
  dsimp only
  clear hp
  have HV : Hid ((addV p1 p2 q1 q2).2.2 = true → VOk (2, (addV p1 p2 q1 q2).1, (addV p1 p2 q1 q2).2.1)) := Lib.hid (bothV_ok _ _ _ _ _ _)
  have HF := Lib.hid hf
  have HG := Lib.hid (fun w => add_any p1 p2 q1 q2 w)
  generalize addV p1 p2 q1 q2 = r at *
  obtain ⟨r1, r2, r3⟩ := r
  dsimp only at *
  have HR := Lib.hid h.rk0
  clear h hf
  go_enter Try.func42, Try.ntmps42
  go_wp2_with fail
  refine HP.out.mono ?_
  rintro e w2 ⟨rfl, hR⟩
  have R2 := HR.out.call hR
  obtain ⟨K3, R3, k3, k7⟩ := R2.alloc (.cells #[.int .i64 q1, .int .i64 q2] 100)
  have B7 := Blk.new w2 #[.int .i64 q1, .int .i64 q2] 100
  obtain ⟨w3, hw3⟩ : ∃ V, w2.alloc (.cells #[.int .i64 q1, .int .i64 q2] 100) = V := ⟨_, rfl⟩
  obtain ⟨t7, ht7⟩ : ∃ t, w2.heap.size = t := ⟨_, rfl⟩
  rw [hw3] at R3 B7
  rw [ht7] at k7 B7
  have HC : Hid (∀ V, Below w3.heap.size w3 V → Calls Try.prog 41 #[.pointer (some ⟨rb, 0, none⟩), .pointer (some ⟨fg, 0, none⟩)] V fun e W' => e = .returned (.agg #[.int .i64 p1, .int .i64 p2]) ∧ RunK w0 V X rb fgs c s2 (fun b => K3 b ∨ (w3.heap.size ≤ b ∧ b < V.heap.size)) W') := Lib.hid (by
    intro V hb
    have := pair_at (R3.under hb).r HF.out
    rw [HP2.out] at this
    exact this)
  have HE := Lib.hid (And.intro hw3 ht7)
  have HR3 := Lib.hid (And.intro R3 (And.intro k7 B7))
  have s0 := B7.c 0 _ rfl
  have s1 := B7.c 1 _ rfl
  have fs0 := B7.f 0
  have fs1 := B7.f 1
  have ls := B7.l
  have hkeep0 : Hid (KQ t7 q1 q2 w3) := Lib.hid ⟨s0, s1⟩
  clear hR HR R2 R3 k3 k7 B7 hw3 ht7
  go_upto_region 8 with fail
  rw [HE.out.1, HE.out.2]
  clear HE
  go_cut [11, 12] (fun s11 s12 wx => ∃ b, s11 = .pointer (some ⟨b, 0, none⟩) ∧ s12 = .bool r3 ∧ CpxAt w0 W K X rb fgs c s2 r1 r2 wx b)
  case first =>
    go_region_held3 (fun w' => w'.cell? ⟨t7, 0, none⟩ = some (.int .i64 q1) ∧ w'.cell? ⟨t7, 1, none⟩ = some (.int .i64 q2))
      ((change KQ t7 q1 q2 _; repeat (first | (with_reducible exact hkeep2) | (with_reducible exact hkeep) | (with_reducible exact hkeep0.out) | with_reducible refine kq_drew ?_ | with_reducible refine kq_alloc ?_ _ | with_reducible refine kq_set ?_ ?_ _ _ | omega | (simp; omega))))
      (first
        | (go_at_call 41; refine (HC.out _ (by first | exact below_drew (Below.refl _ _) | exact (below_drew (Below.refl _ _)).alloc (Nat.le_refl _) _)).mono ?_; rintro e w4 ⟨rfl, hR⟩
           have hkeep : KQ t7 q1 q2 w4 := kq_call hR (.inl HR3.out.2.1) (by repeat (first | (with_reducible exact hkeep2) | (with_reducible exact hkeep) | (with_reducible exact hkeep0.out) | with_reducible refine kq_drew ?_ | with_reducible refine kq_alloc ?_ _ | with_reducible refine kq_set ?_ ?_ _ _ | omega | (simp; omega)))
           have hl4 := kq_lt hkeep
           have hz4 := hR.2.size
           have ca0 := fun hz => hR.cell (b := w3.heap.size) (.inr ⟨Nat.le_refl _, hz⟩) hz 0
           have ca1 := fun hz => hR.cell (b := w3.heap.size) (.inr ⟨Nat.le_refl _, hz⟩) hz 1
           have fa0 := fun hz => hR.frozen (b := w3.heap.size) (.inr ⟨Nat.le_refl _, hz⟩) hz 0
           have fa1 := fun hz => hR.frozen (b := w3.heap.size) (.inr ⟨Nat.le_refl _, hz⟩) hz 1
           (try simp only [World.size_drew, World.size_alloc, Nat.add_one_le_iff] at hz4)
           have HR4 := Lib.hid hR
           clear hR)
        | (refine (HG.out _).mono ?_; rintro e w5 ⟨rfl, hb⟩
           have hkeep2 : KQ t7 q1 q2 w5 := kq_below (by repeat (first | (with_reducible exact hkeep2) | (with_reducible exact hkeep) | (with_reducible exact hkeep0.out) | with_reducible refine kq_drew ?_ | with_reducible refine kq_alloc ?_ _ | with_reducible refine kq_set ?_ ?_ _ _ | omega | (simp; omega))) hb
           have hl5 := kq_lt hkeep2
           have hz5 := hb.size
           obtain ⟨hcc, hff⟩ := bcell hb
           (try simp only [World.size_drew, World.size_alloc, Nat.add_one_le_iff] at hz5)
           have HB5 := Lib.hid hb
           clear hb)
        | fail)
    all_goals go_wp2_with fail
    all_goals go_meet
    all_goals (refine ⟨_, rfl, rfl, ?_⟩; first | with_reducible exact cpx_1 HR3.out.1 HR4.out HB5.out | with_reducible exact cpx_2 HR3.out.1 HR4.out HB5.out | exact cpx_3 HR3.out.1 rfl HR4.out HB5.out | fail)
  case rest =>
    obtain ⟨b, rfl, rfl, K5, R5, B5⟩ := hcut
    have HC2 := Lib.hid (pushed_at R5.r HF.out r1 r2 r3 HV.out)
    have q0 := B5.c 0 _ rfl
    have q1 := B5.c 1 _ rfl
    have ql := B5.l
    have HR5 := Lib.hid R5
    clear R5 B5 s0 s1 fs0 fs1 ls HC
    go_wp2_with fail
    refine HC2.out.mono ?_
    rintro e w6 ⟨rfl, hR⟩
    have HB := Lib.hid (HR5.out.call hR).done
    clear hR HR5
    go_wp2_with fail
    go_ret
    exact ⟨rfl, HB.out⟩

set_option maxHeartbeats 4000000 in
theorem complex_20 (h : RunAt w0 W X rb fgs c s K) (hf : Topf fgs fg) : Calls Try.prog 42 #[.pointer (some ⟨rb, 0, none⟩), .pointer (some ⟨fg, 0, none⟩), .int .u8 20] W fun e W' => e = .returned (.int .i64 (s.pair.2.pair.2.pushed (mulV s.pair.2.pair.1.1 s.pair.2.pair.1.2 s.pair.1.1 s.pair.1.2)).1) ∧ RunK w0 W X rb fgs c (s.pair.2.pair.2.pushed (mulV s.pair.2.pair.1.1 s.pair.2.pair.1.2 s.pair.1.1 s.pair.1.2)).2 K W' := by
  have HP := Lib.hid (pair_at h hf)
  generalize s.pair = p at *
  obtain ⟨⟨q1, q2⟩, s1⟩ := p
  dsimp only at *
  obtain ⟨⟨⟨p1, p2⟩, s2⟩, hp⟩ : ∃ p, s1.pair = p := ⟨_, rfl⟩
  rw [hp]
  have HP2 := Lib.hid hp
  dsimp only
  clear hp
  have HV : Hid ((mulV p1 p2 q1 q2).2.2 = true → VOk (2, (mulV p1 p2 q1 q2).1, (mulV p1 p2 q1 q2).2.1)) := Lib.hid (bothV_ok _ _ _ _ _ _)
  have HF := Lib.hid hf
  have HG := Lib.hid (fun w => prod_any p1 p2 q1 q2 w)
  generalize mulV p1 p2 q1 q2 = r at *
  obtain ⟨r1, r2, r3⟩ := r
  dsimp only at *
  have HR := Lib.hid h.rk0
  clear h hf
  go_enter Try.func42, Try.ntmps42
  go_wp2_with fail
  refine HP.out.mono ?_
  rintro e w2 ⟨rfl, hR⟩
  have R2 := HR.out.call hR
  obtain ⟨K3, R3, k3, k7⟩ := R2.alloc (.cells #[.int .i64 q1, .int .i64 q2] 100)
  have B7 := Blk.new w2 #[.int .i64 q1, .int .i64 q2] 100
  obtain ⟨w3, hw3⟩ : ∃ V, w2.alloc (.cells #[.int .i64 q1, .int .i64 q2] 100) = V := ⟨_, rfl⟩
  obtain ⟨t7, ht7⟩ : ∃ t, w2.heap.size = t := ⟨_, rfl⟩
  rw [hw3] at R3 B7
  rw [ht7] at k7 B7
  have HC : Hid (∀ V, Below w3.heap.size w3 V → Calls Try.prog 41 #[.pointer (some ⟨rb, 0, none⟩), .pointer (some ⟨fg, 0, none⟩)] V fun e W' => e = .returned (.agg #[.int .i64 p1, .int .i64 p2]) ∧ RunK w0 V X rb fgs c s2 (fun b => K3 b ∨ (w3.heap.size ≤ b ∧ b < V.heap.size)) W') := Lib.hid (by
    intro V hb
    have := pair_at (R3.under hb).r HF.out
    rw [HP2.out] at this
    exact this)
  have HE := Lib.hid (And.intro hw3 ht7)
  have HR3 := Lib.hid (And.intro R3 (And.intro k7 B7))
  have s0 := B7.c 0 _ rfl
  have s1 := B7.c 1 _ rfl
  have fs0 := B7.f 0
  have fs1 := B7.f 1
  have ls := B7.l
  have hkeep0 : Hid (KQ t7 q1 q2 w3) := Lib.hid ⟨s0, s1⟩
  clear hR HR R2 R3 k3 k7 B7 hw3 ht7
  go_upto_region 8 with fail
  rw [HE.out.1, HE.out.2]
  clear HE
  go_cut [11, 12] (fun s11 s12 wx => ∃ b, s11 = .pointer (some ⟨b, 0, none⟩) ∧ s12 = .bool r3 ∧ CpxAt w0 W K X rb fgs c s2 r1 r2 wx b)
  case first =>
    go_region_held3 (fun w' => w'.cell? ⟨t7, 0, none⟩ = some (.int .i64 q1) ∧ w'.cell? ⟨t7, 1, none⟩ = some (.int .i64 q2))
      ((change KQ t7 q1 q2 _; repeat (first | (with_reducible exact hkeep2) | (with_reducible exact hkeep) | (with_reducible exact hkeep0.out) | with_reducible refine kq_drew ?_ | with_reducible refine kq_alloc ?_ _ | with_reducible refine kq_set ?_ ?_ _ _ | omega | (simp; omega))))
      (first
        | (go_at_call 41; refine (HC.out _ (by first | exact below_drew (Below.refl _ _) | exact (below_drew (Below.refl _ _)).alloc (Nat.le_refl _) _)).mono ?_; rintro e w4 ⟨rfl, hR⟩
           have hkeep : KQ t7 q1 q2 w4 := kq_call hR (.inl HR3.out.2.1) (by repeat (first | (with_reducible exact hkeep2) | (with_reducible exact hkeep) | (with_reducible exact hkeep0.out) | with_reducible refine kq_drew ?_ | with_reducible refine kq_alloc ?_ _ | with_reducible refine kq_set ?_ ?_ _ _ | omega | (simp; omega)))
           have hl4 := kq_lt hkeep
           have hz4 := hR.2.size
           have ca0 := fun hz => hR.cell (b := w3.heap.size) (.inr ⟨Nat.le_refl _, hz⟩) hz 0
           have ca1 := fun hz => hR.cell (b := w3.heap.size) (.inr ⟨Nat.le_refl _, hz⟩) hz 1
           have fa0 := fun hz => hR.frozen (b := w3.heap.size) (.inr ⟨Nat.le_refl _, hz⟩) hz 0
           have fa1 := fun hz => hR.frozen (b := w3.heap.size) (.inr ⟨Nat.le_refl _, hz⟩) hz 1
           (try simp only [World.size_drew, World.size_alloc, Nat.add_one_le_iff] at hz4)
           have HR4 := Lib.hid hR
           clear hR)
        | (refine (HG.out _).mono ?_; rintro e w5 ⟨rfl, hb⟩
           have hkeep2 : KQ t7 q1 q2 w5 := kq_below (by repeat (first | (with_reducible exact hkeep2) | (with_reducible exact hkeep) | (with_reducible exact hkeep0.out) | with_reducible refine kq_drew ?_ | with_reducible refine kq_alloc ?_ _ | with_reducible refine kq_set ?_ ?_ _ _ | omega | (simp; omega))) hb
           have hl5 := kq_lt hkeep2
           have hz5 := hb.size
           obtain ⟨hcc, hff⟩ := bcell hb
           (try simp only [World.size_drew, World.size_alloc, Nat.add_one_le_iff] at hz5)
           have HB5 := Lib.hid hb
           clear hb)
        | fail)
    all_goals go_wp2_with fail
    all_goals go_meet
    all_goals (refine ⟨_, rfl, rfl, ?_⟩; first | with_reducible exact cpx_1 HR3.out.1 HR4.out HB5.out | with_reducible exact cpx_2 HR3.out.1 HR4.out HB5.out | exact cpx_3 HR3.out.1 rfl HR4.out HB5.out | fail)
  case rest =>
    obtain ⟨b, rfl, rfl, K5, R5, B5⟩ := hcut
    have HC2 := Lib.hid (pushed_at R5.r HF.out r1 r2 r3 HV.out)
    have q0 := B5.c 0 _ rfl
    have q1 := B5.c 1 _ rfl
    have ql := B5.l
    have HR5 := Lib.hid R5
    clear R5 B5 s0 s1 fs0 fs1 ls HC
    go_wp2_with fail
    refine HC2.out.mono ?_
    rintro e w6 ⟨rfl, hR⟩
    have HB := Lib.hid (HR5.out.call hR).done
    clear hR HR5
    go_wp2_with fail
    go_ret
    exact ⟨rfl, HB.out⟩
end
#print axioms cpx_3
#print axioms complex_19
#print axioms complex_20
end Go.Proofs.Ytkhgpeejmbfmjaa
/- The run in memory: move (constants, globals). -/
namespace Go.Proofs.Ytkhgpeejmbfmjaa
open Go.RowKit
set_option linter.unusedSimpArgs false
set_option linter.unusedVariables false
set_option maxRecDepth 100000
section
variable {w0 W : World} {X : Sx} {rb : Nat} {fgs : List Nat} {c : Nat} {s : Mc} {K : Nat → Prop} {fg : Nat}

theorem first_two (h : RunAt w0 W X rb fgs c s K) (cs : Array Value) (t : TypeId) (cs2 : Array Value) (t2 : TypeId) : ∃ (W1 : World) (b : Nat) (K1 : Nat → Prop), (W.alloc (.cells cs t)).alloc (.cells cs2 t2) = W1 ∧ W.heap.size = b ∧ Rk w0 W K W1 K1 X rb fgs c s ∧ K1 b ∧ K1 (b + 1) ∧ Blk W1 b cs.toList ∧ Blk W1 (b + 1) cs2.toList := by
  obtain ⟨K1, R1, k1, k6⟩ := h.rk0.alloc (.cells cs t)
  obtain ⟨K2, R2, k2, k7⟩ := R1.alloc (.cells cs2 t2)
  have e : (W.alloc (.cells cs t)).heap.size = W.heap.size + 1 := by simp
  have b2 := Blk.new (W.alloc (.cells cs t)) cs2 t2
  rw [e] at b2 k7
  exact ⟨_, _, K2, rfl, rfl, R2, k2 _ k6, k7, (Blk.new W cs t).alloc _, b2⟩
/-- The globals. -/
theorem RunAt.gls (h : RunAt w0 W X rb fgs c s K) : ∃ Ag cg, W.cell? ⟨rb, 7, none⟩ = some (.slice Ag s.gl.length cg) ∧ ∀ k (hk : k < s.gl.length), ∃ gb, Ag = some ⟨gb, 0, none⟩ ∧ gb < W.heap.size ∧
    W.cell? ⟨gb, k * 3, none⟩ = some (.int .u8 s.gl[k].1) ∧ W.cell? ⟨gb, k * 3 + 1, none⟩ = some (.int .i64 s.gl[k].2.1) ∧ W.cell? ⟨gb, k * 3 + 2, none⟩ = some (.int .i64 s.gl[k].2.2) := by
  obtain ⟨own, Af, cf, Am, cm, gh, gw, Ag, cg, h⟩ := h
  refine ⟨Ag, cg, h.blk.c 7 _ rfl, fun k hk => ?_⟩
  rcases h.gl with e | ⟨gb, g1, g2, g3, g4, g5⟩
  · rw [e] at hk; simp at hk
  · obtain ⟨a, b, d⟩ := vcs_get s.gl k hk
    exact ⟨gb, g1, g3.l, g3.c _ _ a, g3.c _ _ b, g3.c _ _ d⟩
theorem RunAt.setGl (h : RunAt w0 W X rb fgs c s K) {k : Nat} (hk : k < s.gl.length) (v : V) (hv : VOk v) : ∃ gb cg, W.cell? ⟨rb, 7, none⟩ = some (.slice (some ⟨gb, 0, none⟩) s.gl.length cg) ∧ gb < W.heap.size ∧ (∀ o, W.frozen? ⟨gb, o, none⟩ = false) ∧
    W.cell? ⟨gb, k * 3, none⟩ = some (.int .u8 s.gl[k].1) ∧ W.cell? ⟨gb, k * 3 + 1, none⟩ = some (.int .i64 s.gl[k].2.1) ∧ W.cell? ⟨gb, k * 3 + 2, none⟩ = some (.int .i64 s.gl[k].2.2) ∧ ¬ K gb ∧
    ∀ m, RunK w0 W X rb fgs c { s with gl := s.gl.set k v } K ((((W.drewN m).setCell ⟨gb, k * 3, none⟩ (.int .u8 v.1)).setCell ⟨gb, k * 3 + 1, none⟩ (.int .i64 v.2.1)).setCell ⟨gb, k * 3 + 2, none⟩ (.int .i64 v.2.2)) := by
  obtain ⟨own, Af, cf, Am, cm, gh, gw, Ag, cg, h⟩ := h
  rcases h.gl with e | ⟨gb, g1, g2, g3, g4, g5, g6⟩
  · rw [e] at hk; simp at hk
  obtain ⟨a, b, d⟩ := vcs_get s.gl k hk
  have hnk : ¬ K gb := fun e => by have := (h.kk gb e).2; omega
  refine ⟨gb, cg, by rw [← g1]; exact h.blk.c 7 _ rfl, g3.l, g3.f, g3.c _ _ a, g3.c _ _ b, g3.c _ _ d, hnk, fun m => ?_⟩
  obtain ⟨W', hW'⟩ : ∃ W', ((((W.drewN m).setCell ⟨gb, k * 3, none⟩ (.int .u8 v.1)).setCell ⟨gb, k * 3 + 1, none⟩ (.int .i64 v.2.1)).setCell ⟨gb, k * 3 + 2, none⟩ (.int .i64 v.2.2)) = W' := ⟨_, rfl⟩
  have t : Touch (fun b => b = gb) W W' := by
    rw [← hW']
    exact ((((Touch.refl (fun b => b = gb) W).drewN m).setCell _ _ (fun _ => rfl)).setCell _ _ (fun _ => rfl)).setCell _ _ (fun _ => rfl)
  have B : Blk W' gb (vcs (s.gl.set k v)) := by
    have hb := (((g3.drewN m).set (j := k * 3) a (.int .u8 v.1)).set (j := k * 3 + 1) (by rw [List.getElem?_set_ne (by omega)]; exact b) (.int .i64 v.2.1)).set (j := k * 3 + 2) (by rw [List.getElem?_set_ne (by omega), List.getElem?_set_ne (by omega)]; exact d) (.int .i64 v.2.2)
    rw [vcs_set _ _ _ hk, hW'] at hb
    exact hb
  rw [hW']
  obtain ⟨s1, s2, s3, s4, s5, s6, s7⟩ := h.step (k' := 1) t (fun b hb e => by have e : b = gb := e; rw [e]; exact ⟨g2, h.new g2 (by omega)⟩) 1
  refine ⟨⟨relab own W 1, Af, cf, Am, cm, gh, gw, Ag, cg, ⟨?_, ?_, ?_, s1 (by omega), h.frl, fun i hi hi' => s2 i hi hi' (by omega), ?_, s4, s5, s6, s7, h.md, ?_, h.ghe⟩⟩, t.mono (fun b hb e hk => by have e : b = gb := e; rw [e] at hk; exact hnk hk)⟩
  · show Blk W' rb (rcells X _ _ gh (.slice Ag (s.gl.set k v).length cg) s)
    rw [List.length_set]
    exact h.blk.touch t (fun e => g4 e.symm)
  · exact t.row h.rowF (fun g o c e e2 => g5 ⟨g, 0, none⟩ (by injection e) e2)
  · exact t.row h.rowM (fun g o c e e2 => g6 ⟨g, 0, none⟩ (by injection e) e2)
  · exact .inr ⟨gb, g1, by rw [relab_old g3.l]; exact g2, B, g4, g5, g6⟩
  · have o := h.ok
    refine { o with gv := ?_, gn := by show (s.gl.set k v).length ≤ 20; rw [List.length_set]; exact o.gn }
    intro u hu
    rcases List.mem_or_eq_of_mem_set hu with hu | rfl
    · exact o.gv u hu
    · exact hv
theorem Rk.drewN {W0 : World} {K0 : Nat → Prop} (h : Rk w0 W0 K0 W K X rb fgs c s) (m : Nat) : Rk w0 W0 K0 (W.drewN m) K X rb fgs c s := h.foreign (S := fun _ => False) ((Touch.refl _ _).drewN m) (fun _ _ e => e.elim)
theorem zv_ok : VOk zv := by unfold VOk zv I64; simp
theorem inB_nat {a : Int} {n : Nat} (h : inB a ((n : Int) - 1) = true) : ∃ k : Nat, a = k ∧ k < n := by
  unfold inB at h
  have h := of_decide_eq_true h
  exact ⟨a.toNat, by omega, by omega⟩

theorem move_1 (h : RunAt w0 W X rb fgs c s K) (hf : Topf fgs fg) (a b : Int) : Calls Try.prog 33 #[.pointer (some ⟨rb, 0, none⟩), .pointer (some ⟨fg, 0, none⟩), .agg #[.int .u8 1, .int .i64 a, .int .i64 b]] W fun e W' => e = .returned (.tuple #[]) ∧ RunK w0 W X rb fgs c (s.move X.m 1 a) K W' := by
  obtain ⟨W1, t5, K1, hW1, ht5, R1, k5, k6, B5, B6⟩ := first_two h #[.int .u8 1, .int .i64 a, .int .i64 b] 46 #[.int .u8 0, .int .i64 0, .int .i64 0] 29
  have hn5 : W.heap.size ≤ t5 := by omega
  have hn6 : W.heap.size ≤ t5 + 1 := by omega
  have HE := Lib.hid (And.intro hW1 ht5)
  have md := R1.r.md
  have hnp := md.np
  have hpl := md.pool.1
  have cS := R1.r.c1
  have cSw := h.c1
  have rl := R1.r.rbl
  have wn : IntKind.i64.wrap ((X.np : Int) - 1) = (X.np : Int) - 1 := IntWalk.i64_in _ (by omega)
  have HF := Lib.hid hf
  cases hin : inB a ((X.np : Int) - 1) with
  | false =>
    have e : s.move X.m 1 a = s.cant := by
      show (if (inB a ((X.m.pool.length : Int) - 1)) && _ then _ else _) = _
      rw [hpl, hin]
      rfl
    rw [e]
    have HIN : Hid (∀ V, Calls Try.prog 17 #[.int .i64 a, .int .i64 ((X.np : Int) - 1)] V fun e V' => e = .returned (.bool false) ∧ V' = V) := Lib.hid (fun V => by rw [← hin]; exact in_any _ _ _)
    have HR := Lib.hid R1
    have b0 := B5.c 0 _ rfl
    have b1 := B5.c 1 _ rfl
    have b2 := B5.c 2 _ rfl
    have lb := B5.l
    clear h hf R1 k5 k6 B5 B6 hW1 ht5 e hin md hpl
    go_enter Try.func33, Try.ntmps33
    go_upto_region 9 with fail
    rw [HE.out.1, HE.out.2]
    clear HE
    go_quiet ((go_at_call 17; exact Calls.quiet_of_same (HIN.out _)))
    rename_i nq
    obtain ⟨K3, R3, -, -⟩ := HR.out.below (below_drewN (Below.refl _ _) nq)
    have HC := Lib.hid (cant_at R3.r)
    have HR3 := Lib.hid R3
    clear R3 HR
    go_wp2_with fail
    refine HC.out.mono ?_
    rintro e w3 ⟨rfl, hR⟩
    have HB := Lib.hid (HR3.out.call hR).done
    clear hR HR3
    go_wp2_with fail
    exact bodyPost_ret (v := .tuple #[]) (by simp [results, Try.results33, go_sem]) rfl ⟨rfl, HB.out⟩
  | true =>
    obtain ⟨k, rfl, hk⟩ := inB_nat hin
    have hk2 : k < X.m.pool.length := by omega
    obtain ⟨g, o, hmp, hg, hv, x0, x1, x2⟩ := md.pool.2 k hk2
    rw [hmp] at cS cSw
    have hvk : X.m.pool[k]?.getD zv = X.m.pool[k] := by rw [List.getElem?_eq_getElem hk2, Option.getD_some]
    generalize X.m.pool[k] = v at *
    clear hmp hk2
    obtain ⟨v0, v1, v2⟩ := v
    dsimp only at x0 x1 x2
    have HIN : Hid (∀ V, Calls Try.prog 17 #[.int .i64 (k : Int), .int .i64 ((X.np : Int) - 1)] V fun e V' => e = .returned (.bool true) ∧ V' = V) := Lib.hid (fun V => by rw [← hin]; exact in_any _ _ _)
    have R2 := fun m => (((R1.drewN m).set k6 hn6 0 (.int .u8 v0)).set k6 hn6 1 (.int .i64 v1)).set k6 hn6 2 (.int .i64 v2)
    have B62 := fun m => (((B6.drewN m).set (j := 0) rfl (.int .u8 v0)).set (j := 1) rfl (.int .i64 v1)).set (j := 2) rfl (.int .i64 v2)
    have HR2 := Lib.hid (fun m => And.intro (R2 m) (B62 m))
    have HI := Lib.hid (fun V => inside_any (v0, v1, v2) V)
    have e : s.move X.m 1 (k : Int) = if insideV (v0, v1, v2) then s.push (v0, v1, v2) else s.cant := by
      show (if (inB (k : Int) ((X.m.pool.length : Int) - 1)) && _ then _ else _) = _
      rw [hpl, hin]
      show (if (true && insideV (if true = true then X.m.pool[(k : Int).toNat]?.getD zv else zv)) = true then s.push (if true = true then X.m.pool[(k : Int).toNat]?.getD zv else zv) else s.cant) = _
      rw [if_pos rfl, Int.toNat_natCast, hvk]
      rfl
    rw [e]
    unfold vagg at HI
    dsimp only at HI
    have hkz : (k : Int) < (X.np : Int) := by omega
    have HV := Lib.hid hv
    have b0 := B5.c 0 _ rfl
    have b1 := B5.c 1 _ rfl
    have b2 := B5.c 2 _ rfl
    have lb := B5.l
    have q0 := B6.c 0 _ rfl
    have q1 := B6.c 1 _ rfl
    have q2 := B6.c 2 _ rfl
    have fq0 := B6.f 0
    have fq1 := B6.f 1
    have fq2 := B6.f 2
    have lq := B6.l
    clear h R1 R2 k5 k6 B5 B6 B62 hW1 ht5 e hin hf hv hvk md hpl
    cases hins : insideV (v0, v1, v2) with
    | true =>
      rw [hins] at HI
      clear hins
      rw [if_pos rfl]
      go_enter Try.func33, Try.ntmps33
      go_upto_region 9 with fail
      rw [HE.out.1, HE.out.2]
      clear HE
      go_quiet ((go_at_call 17; exact Calls.quiet_of_same (HIN.out _)))
      rename_i nq
      go_wp2_with fail
      go_region
      go_wp2_with fail
      refine (HI.out _).mono ?_
      rintro e w3 ⟨rfl, hb⟩
      obtain ⟨R2, B62⟩ := HR2.out (nq + 1)
      have hb0 := hb
      obtain ⟨K3, R3, k3, -⟩ := R2.below hb0
      have B63 := B62.below hb0
      have y0 := B63.c 0 _ rfl
      have y1 := B63.c 1 _ rfl
      have y2 := B63.c 2 _ rfl
      have yl := B63.l
      have HC := Lib.hid (push_at R3.r HF.out (v0, v1, v2) HV.out)
      unfold vagg at HC
      dsimp only at HC
      have HR3 := Lib.hid R3
      clear hb hb0 R2 B62 R3 k3 B63 HR2 HI
      go_wp2_with fail
      refine HC.out.mono ?_
      rintro e w4 ⟨rfl, hR⟩
      have HB := Lib.hid (HR3.out.call hR).done
      clear hR HR3
      go_wp2_with fail
      go_end0
      exact ⟨rfl, HB.out⟩
    | false =>
      rw [hins] at HI
      clear hins
      rw [if_neg (by decide)]
      go_enter Try.func33, Try.ntmps33
      go_upto_region 9 with fail
      rw [HE.out.1, HE.out.2]
      clear HE
      go_quiet ((go_at_call 17; exact Calls.quiet_of_same (HIN.out _)))
      rename_i nq
      go_wp2_with fail
      go_region
      go_wp2_with fail
      refine (HI.out _).mono ?_
      rintro e w3 ⟨rfl, hb⟩
      obtain ⟨R2, B62⟩ := HR2.out (nq + 1)
      have hb0 := hb
      obtain ⟨K3, R3, k3, -⟩ := R2.below hb0
      have HC := Lib.hid (cant_at R3.r)
      have HR3 := Lib.hid R3
      clear hb hb0 R2 B62 R3 k3 HR2 HI
      go_wp2_with fail
      refine HC.out.mono ?_
      rintro e w4 ⟨rfl, hR⟩
      have HB := Lib.hid (HR3.out.call hR).done
      clear hR HR3
      go_wp2_with fail
      exact bodyPost_ret (v := .tuple #[]) (by simp [results, Try.results33, go_sem]) rfl ⟨rfl, HB.out⟩

theorem move_4 (h : RunAt w0 W X rb fgs c s K) (hf : Topf fgs fg) (a b : Int) : Calls Try.prog 33 #[.pointer (some ⟨rb, 0, none⟩), .pointer (some ⟨fg, 0, none⟩), .agg #[.int .u8 4, .int .i64 a, .int .i64 b]] W fun e W' => e = .returned (.tuple #[]) ∧ RunK w0 W X rb fgs c (s.move X.m 4 a) K W' := by
  obtain ⟨W1, t5, K1, hW1, ht5, R1, k5, k6, B5, B6⟩ := first_two h #[.int .u8 4, .int .i64 a, .int .i64 b] 46 #[.int .u8 0, .int .i64 0, .int .i64 0] 29
  have hn5 : W.heap.size ≤ t5 := by omega
  have hn6 : W.heap.size ≤ t5 + 1 := by omega
  have HE := Lib.hid (And.intro hW1 ht5)
  obtain ⟨Ag, cg, cS, hgl⟩ := R1.r.gls
  obtain ⟨Ag', cg', cSw, -⟩ := h.gls
  have hgn := R1.r.ok.gn
  have hgv := R1.r.ok.gv
  obtain ⟨n, hnn⟩ : ∃ n, s.gl.length = n := ⟨_, rfl⟩
  rw [hnn] at cS cSw hgn
  have rl := R1.r.rbl
  have wn : IntKind.i64.wrap ((n : Int) - 1) = (n : Int) - 1 := IntWalk.i64_in _ (by omega)
  have HF := Lib.hid hf
  cases hin : inB a ((n : Int) - 1) with
  | false =>
    have e : s.move X.m 4 a = s.cant := by
      show (if (inB a ((s.gl.length : Int) - 1)) && _ then _ else _) = _
      rw [hnn, hin]
      rfl
    rw [e]
    have HIN : Hid (∀ V, Calls Try.prog 17 #[.int .i64 a, .int .i64 ((n : Int) - 1)] V fun e V' => e = .returned (.bool false) ∧ V' = V) := Lib.hid (fun V => by rw [← hin]; exact in_any _ _ _)
    have HR := Lib.hid R1
    have b0 := B5.c 0 _ rfl
    have b1 := B5.c 1 _ rfl
    have b2 := B5.c 2 _ rfl
    have lb := B5.l
    clear h hf R1 k5 k6 B5 B6 hW1 ht5 e hin hgl hgv hnn
    go_enter Try.func33, Try.ntmps33
    go_upto_region 15 with fail
    rw [HE.out.1, HE.out.2]
    clear HE
    go_quiet ((go_at_call 17; exact Calls.quiet_of_same (HIN.out _)))
    rename_i nq
    obtain ⟨K3, R3, -, -⟩ := HR.out.below (below_drewN (Below.refl _ _) nq)
    have HC := Lib.hid (cant_at R3.r)
    have HR3 := Lib.hid R3
    clear R3 HR
    go_wp2_with fail
    refine HC.out.mono ?_
    rintro e w3 ⟨rfl, hR⟩
    have HB := Lib.hid (HR3.out.call hR).done
    clear hR HR3
    go_wp2_with fail
    exact bodyPost_ret (v := .tuple #[]) (by simp [results, Try.results33, go_sem]) rfl ⟨rfl, HB.out⟩
  | true =>
    obtain ⟨k, rfl, hk⟩ := inB_nat hin
    have hk2 : k < s.gl.length := by omega
    obtain ⟨g, hmp, hg, x0, x1, x2⟩ := hgl k hk2
    have hv := hgv _ (List.getElem_mem hk2)
    rw [hmp] at cS
    have hvk : s.gl[k]?.getD zv = s.gl[k] := by rw [List.getElem?_eq_getElem hk2, Option.getD_some]
    generalize s.gl[k] = v at *
    clear hmp hk2
    obtain ⟨v0, v1, v2⟩ := v
    dsimp only at x0 x1 x2
    have HIN : Hid (∀ V, Calls Try.prog 17 #[.int .i64 (k : Int), .int .i64 ((n : Int) - 1)] V fun e V' => e = .returned (.bool true) ∧ V' = V) := Lib.hid (fun V => by rw [← hin]; exact in_any _ _ _)
    have R2 := fun m => (((R1.drewN m).set k6 hn6 0 (.int .u8 v0)).set k6 hn6 1 (.int .i64 v1)).set k6 hn6 2 (.int .i64 v2)
    have B62 := fun m => (((B6.drewN m).set (j := 0) rfl (.int .u8 v0)).set (j := 1) rfl (.int .i64 v1)).set (j := 2) rfl (.int .i64 v2)
    have HR2 := Lib.hid (fun m => And.intro (R2 m) (B62 m))
    have HI := Lib.hid (fun V => inside_any (v0, v1, v2) V)
    have e : s.move X.m 4 (k : Int) = if insideV (v0, v1, v2) then s.push (v0, v1, v2) else s.cant := by
      show (if (inB (k : Int) ((s.gl.length : Int) - 1)) && _ then _ else _) = _
      rw [hnn, hin]
      show (if (true && insideV (if true = true then s.gl[(k : Int).toNat]?.getD zv else zv)) = true then s.push (if true = true then s.gl[(k : Int).toNat]?.getD zv else zv) else s.cant) = _
      rw [if_pos rfl, Int.toNat_natCast, hvk]
      rfl
    rw [e]
    unfold vagg at HI
    dsimp only at HI
    have hkz : (k : Int) < (n : Int) := by omega
    have HV := Lib.hid hv
    have b0 := B5.c 0 _ rfl
    have b1 := B5.c 1 _ rfl
    have b2 := B5.c 2 _ rfl
    have lb := B5.l
    have q0 := B6.c 0 _ rfl
    have q1 := B6.c 1 _ rfl
    have q2 := B6.c 2 _ rfl
    have fq0 := B6.f 0
    have fq1 := B6.f 1
    have fq2 := B6.f 2
    have lq := B6.l
    clear h R1 R2 k5 k6 B5 B6 B62 hW1 ht5 e hin hf hv hvk hgl hgv hnn
    cases hins : insideV (v0, v1, v2) with
    | true =>
      rw [hins] at HI
      clear hins
      rw [if_pos rfl]
      go_enter Try.func33, Try.ntmps33
      go_upto_region 15 with fail
      rw [HE.out.1, HE.out.2]
      clear HE
      go_quiet ((go_at_call 17; exact Calls.quiet_of_same (HIN.out _)))
      rename_i nq
      go_wp2_with fail
      go_region
      go_wp2_with fail
      refine (HI.out _).mono ?_
      rintro e w3 ⟨rfl, hb⟩
      obtain ⟨R2, B62⟩ := HR2.out (nq + 1)
      have hb0 := hb
      obtain ⟨K3, R3, k3, -⟩ := R2.below hb0
      have B63 := B62.below hb0
      have y0 := B63.c 0 _ rfl
      have y1 := B63.c 1 _ rfl
      have y2 := B63.c 2 _ rfl
      have yl := B63.l
      have HC := Lib.hid (push_at R3.r HF.out (v0, v1, v2) HV.out)
      unfold vagg at HC
      dsimp only at HC
      have HR3 := Lib.hid R3
      clear hb hb0 R2 B62 R3 k3 B63 HR2 HI
      go_wp2_with fail
      refine HC.out.mono ?_
      rintro e w4 ⟨rfl, hR⟩
      have HB := Lib.hid (HR3.out.call hR).done
      clear hR HR3
      go_wp2_with fail
      go_end0
      exact ⟨rfl, HB.out⟩
    | false =>
      rw [hins] at HI
      clear hins
      rw [if_neg (by decide)]
      go_enter Try.func33, Try.ntmps33
      go_upto_region 15 with fail
      rw [HE.out.1, HE.out.2]
      clear HE
      go_quiet ((go_at_call 17; exact Calls.quiet_of_same (HIN.out _)))
      rename_i nq
      go_wp2_with fail
      go_region
      go_wp2_with fail
      refine (HI.out _).mono ?_
      rintro e w3 ⟨rfl, hb⟩
      obtain ⟨R2, B62⟩ := HR2.out (nq + 1)
      have hb0 := hb
      obtain ⟨K3, R3, k3, -⟩ := R2.below hb0
      have HC := Lib.hid (cant_at R3.r)
      have HR3 := Lib.hid R3
      clear hb hb0 R2 B62 R3 k3 HR2 HI
      go_wp2_with fail
      refine HC.out.mono ?_
      rintro e w4 ⟨rfl, hR⟩
      have HB := Lib.hid (HR3.out.call hR).done
      clear hR HR3
      go_wp2_with fail
      exact bodyPost_ret (v := .tuple #[]) (by simp [results, Try.results33, go_sem]) rfl ⟨rfl, HB.out⟩
end
#print axioms inB_nat
#print axioms move_1
#print axioms move_4
end Go.Proofs.Ytkhgpeejmbfmjaa
