/- MemPlays: the document's accesses, each by one contract. -/
import Derived.Test.YthllfeogchbihacMemV
import Derived.Test.YthllfeogchbihacMemR
namespace Go.Proofs.Ythllfeogchbihac
open Go.RowKit
set_option linter.unusedSimpArgs false
set_option linter.unusedVariables false
section
variable {W : World} {rg ag bg cg dg : Nat} {R : Me}
theorem tick_len (R : Me) (i : Nat) : (R.tick i).pr.length = R.pr.length := List.length_set
theorem tick_proc (R : Me) {i j : Nat} (hj : j < R.pr.length) : (R.tick i).proc j = if i = j then { R.proc i with st := wrap64 ((R.proc i).st + 1) } else R.proc j := proc_set (M := R) rfl hj
theorem tick_acs (R : Me) {i j : Nat} (hj : j < R.pr.length) : acs5 ((R.tick i).proc j) = acs5 (R.proc j) := by
  rw [tick_proc R hj]
  split
  · rename_i e; subst e; rfl
  · rfl
theorem tick_pos (R : Me) {i j : Nat} (hj : j < R.pr.length) : ((R.tick i).proc j).pos = (R.proc j).pos := by
  rw [tick_proc R hj]
  split
  · rename_i e; subst e; rfl
  · rfl
theorem ann_tick (R : Me) {i : Nat} (hi : i < R.pr.length) (x : P7) : (R.tick i).ann i x = (R.ann i x).tick i := by
  have e1 : (R.ann i x).proc i = { R.proc i with s := x.s, k := x.k, m := x.m } := by
    rw [proc_set (M := R) (M' := R.ann i x) rfl hi, if_pos rfl]
  have e2 : (R.tick i).proc i = { R.proc i with st := wrap64 ((R.proc i).st + 1) } := by rw [tick_proc R hi, if_pos rfl]
  show ({ pr := (R.pr.set i _).set i { (R.tick i).proc i with s := x.s, k := x.k, m := x.m }, sl := R.sl, sn := R.sn } : Me) = { pr := (R.pr.set i _).set i { (R.ann i x).proc i with st := wrap64 (((R.ann i x).proc i).st + 1) }, sl := R.sl, sn := R.sn }
  rw [e1, e2, List.set_set, List.set_set]
theorem pub_tick (R : Me) {i : Nat} (hi : i < R.pr.length) (n : Int) : (R.tick i).pub i n = (R.pub i n).tick i := by
  have e1 : (R.pub i n).proc i = { R.proc i with pos := n } := by
    rw [proc_set (M := R) (M' := R.pub i n) rfl hi, if_pos rfl]
  have e2 : (R.tick i).proc i = { R.proc i with st := wrap64 ((R.proc i).st + 1) } := by rw [tick_proc R hi, if_pos rfl]
  show ({ pr := (R.pr.set i _).set i { (R.tick i).proc i with pos := n }, sl := R.sl, sn := R.sn } : Me) = { pr := (R.pr.set i _).set i { (R.pub i n).proc i with st := wrap64 (((R.pub i n).proc i).st + 1) }, sl := R.sl, sn := R.sn }
  rw [e1, e2, List.set_set, List.set_set]
theorem RAt.ann (h : RAt W rg ag bg cg dg R) {i : Nat} (hi : i < R.pr.length) (x : P7) {W' : World}
    (hw : W' = ((((W.setCell ⟨ag, i * 5, none⟩ (.int .i64 x.s)).setCell ⟨ag, i * 5 + 1, none⟩ (.int .u8 x.k)).setCell ⟨ag, i * 5 + 2, none⟩ (.int .i64 x.m)).setCell ⟨ag, i * 5 + 3, none⟩ (.slice none 0 0)).setCell ⟨ag, i * 5 + 4, none⟩ (.slice none 0 0)) : RAt W' rg ag bg cg dg (R.ann i x) := by
  have g0 := h.aset hi (q := 0) (v := .int .i64 x.s) (x := { R.pr[i] with s := x.s }) (by decide) rfl rfl rfl
  have g1 := g0.aset (i := i) (by simpa using hi) (q := 1) (v := .int .u8 x.k) (x := { R.pr[i] with s := x.s, k := x.k }) (by decide) (by simp [acs5]) (by simp) (by simp)
  have g2 := g1.aset (i := i) (by simpa using hi) (q := 2) (v := .int .i64 x.m) (x := { R.pr[i] with s := x.s, k := x.k, m := x.m }) (by decide) (by simp [acs5]) (by simp) (by simp)
  have g3 := g2.aset (i := i) (by simpa using hi) (q := 3) (v := .slice none 0 0) (x := { R.pr[i] with s := x.s, k := x.k, m := x.m }) (by decide) (by simp [acs5]) (by simp) (by simp)
  have g4 := g3.aset (i := i) (by simpa using hi) (q := 4) (v := .slice none 0 0) (x := { R.pr[i] with s := x.s, k := x.k, m := x.m }) (by decide) (by simp [acs5]) (by simp) (by simp)
  rw [hw]
  unfold Me.ann
  rw [Me.proc_yes hi]
  simpa using g4
theorem RAt.put (h : RAt W rg ag bg cg dg R) {i : Nat} (hi : i < R.sl.length) (x : S7) {W' : World}
    (hw : W' = ((((((W.setCell ⟨dg, i * 7, none⟩ (.int .i64 x.i)).setCell ⟨dg, i * 7 + 1, none⟩ (.int .i64 x.p)).setCell ⟨dg, i * 7 + 2, none⟩ (.int .i64 x.s)).setCell ⟨dg, i * 7 + 3, none⟩ (.int .u8 x.k)).setCell ⟨dg, i * 7 + 4, none⟩ (.int .i64 x.m)).setCell ⟨dg, i * 7 + 5, none⟩ (.slice none 0 0)).setCell ⟨dg, i * 7 + 6, none⟩ (.slice none 0 0)) : RAt W' rg ag bg cg dg (R.put i x) := by
  have g0 := h.dset hi (q := 0) (v := .int .i64 x.i) (x := { R.sl[i] with i := x.i }) (by decide) rfl
  have g1 := g0.dset (i := i) (by simpa using hi) (q := 1) (v := .int .i64 x.p) (x := { R.sl[i] with i := x.i, p := x.p }) (by decide) (by simp [S7.cs])
  have g2 := g1.dset (i := i) (by simpa using hi) (q := 2) (v := .int .i64 x.s) (x := { R.sl[i] with i := x.i, p := x.p, s := x.s }) (by decide) (by simp [S7.cs])
  have g3 := g2.dset (i := i) (by simpa using hi) (q := 3) (v := .int .u8 x.k) (x := { R.sl[i] with i := x.i, p := x.p, s := x.s, k := x.k }) (by decide) (by simp [S7.cs])
  have g4 := g3.dset (i := i) (by simpa using hi) (q := 4) (v := .int .i64 x.m) (x := x) (by decide) (by simp [S7.cs])
  have g5 := g4.dset (i := i) (by simpa using hi) (q := 5) (v := .slice none 0 0) (x := x) (by decide) (by simp [S7.cs])
  have g6 := g5.dset (i := i) (by simpa using hi) (q := 6) (v := .slice none 0 0) (x := x) (by decide) (by simp [S7.cs])
  rw [hw]
  simpa [Me.put] using g6
theorem RAt.swp (h : RAt W rg ag bg cg dg R) (x : N7) {W' : World}
    (hw : W' = ((((((W.setCell ⟨rg, 4, none⟩ (.int .i64 x.i)).setCell ⟨rg, 5, none⟩ (.slice none 0 0)).setCell ⟨rg, 6, none⟩ (.slice none 0 0)).setCell ⟨rg, 7, none⟩ (.slice none 0 0)).setCell ⟨rg, 8, none⟩ (.int .i64 0)).setCell ⟨rg, 9, none⟩ (.slice none 0 0)).setCell ⟨rg, 10, none⟩ (.slice x.A x.n x.c)) : RAt W' rg ag bg cg dg (R.swp x) := by
  have g0 := h.nset (q := 0) (v := .int .i64 x.i) (x := { R.sn with i := x.i }) (by decide) rfl
  have g1 := g0.nset (q := 1) (v := .slice none 0 0) (x := { R.sn with i := x.i }) (by decide) rfl
  have g2 := g1.nset (q := 2) (v := .slice none 0 0) (x := { R.sn with i := x.i }) (by decide) rfl
  have g3 := g2.nset (q := 3) (v := .slice none 0 0) (x := { R.sn with i := x.i }) (by decide) rfl
  have g4 := g3.nset (q := 4) (v := .int .i64 0) (x := { R.sn with i := x.i }) (by decide) rfl
  have g5 := g4.nset (q := 5) (v := .slice none 0 0) (x := { R.sn with i := x.i }) (by decide) rfl
  have g6 := g5.nset (q := 6) (v := .slice x.A x.n x.c) (x := x) (by decide) rfl
  rw [hw]
  exact g6
/-- A chain of changes of the document's memory behind new blocks. -/
theorem r_fin {X w1 Z : World} {R1 : Me} (hb : Below W.heap.size W X) (t : Touch (RF rg ag bg cg dg) X w1) (h1 : RAt w1 rg ag bg cg dg R1) {b0 : Nat} (hb0 : W.heap.size ≤ b0) (n0 : ¬ RF rg ag bg cg dg b0) (tz : Touch (fun b => b = b0) w1 Z) : Touch (RF rg ag bg cg dg) W Z ∧ RAt Z rg ag bg cg dg R1 :=
  ⟨((Touch.of_below hb (Nat.le_refl _) _).trans t).trans' tz (fun b hb2 e => by have e : b = b0 := e; omega), h1.touch tz (fun b hb e => n0 (by have e : b = b0 := e; rw [← e]; exact hb))⟩
theorem r_annd_res {x : P7} (Z : World) (t : Array Value) (b0 : Nat) (b : Bool) (h6 : t[6]? = some (.pointer (some ⟨b0, 0, none⟩))) (h7 : t[7]? = some (.bool b)) (r0 : Z.cell? ⟨b0, 0, none⟩ = some (.int .i64 x.s)) (r1 : Z.cell? ⟨b0, 1, none⟩ = some (.int .u8 x.k)) (r2 : Z.cell? ⟨b0, 2, none⟩ = some (.int .i64 x.m)) (r3 : Z.cell? ⟨b0, 3, none⟩ = some (.slice none 0 0)) (r4 : Z.cell? ⟨b0, 4, none⟩ = some (.slice none 0 0)) : (results Try.f36 t).run Try.prog Z = .ok (.tuple #[aagg x, .bool b]) Z := by
  unfold aagg
  simp [results, Try.results36, go_sem, h6, h7, r0, r1, r2, r3, r4]
set_option maxRecDepth 100000 in
set_option maxHeartbeats 2000000 in
theorem r_annd (h : RAt W rg ag bg cg dg R) (p q : Int) : Calls Try.prog 36 #[.pointer (some ⟨rg, 0, none⟩), .int .i64 p, .int .i64 q] W fun e W' => e = .returned (.tuple #[aagg (if (hasB R.pr.length p && hasB R.pr.length q) then R.proc q else zp), .bool (hasB R.pr.length p && hasB R.pr.length q)]) ∧ Touch (RF rg ag bg cg dg) W W' ∧ RAt W' rg ag bg cg dg (if (hasB R.pr.length p && hasB R.pr.length q) = true then R.tick p.toNat else R) := by
  obtain ⟨X, hX⟩ : ∃ X, W.alloc (.cells #[.int .i64 0, .int .u8 0, .int .i64 0, .slice none 0 0, .slice none 0 0] 68) = X := ⟨_, rfl⟩
  obtain ⟨b0, hb0⟩ : ∃ b0, W.heap.size = b0 := ⟨_, rfl⟩
  have hbX : Below W.heap.size W X := by rw [← hX]; exact (Below.refl _ _).alloc (Nat.le_refl _) _
  have p0 : Blk X b0 [.int .i64 0, .int .u8 0, .int .i64 0, .slice none 0 0, .slice none 0 0] := by rw [← hX, ← hb0]; exact Blk.new _ _ _
  have hX0 := h.below hbX
  have n0 : ¬ RF rg ag bg cg dg b0 := fun e => by have := h.foot _ e; omega
  have H46 := Lib.hid (r_has hX0 q)
  have hst := r_step hX0 p (hasB R.pr.length q)
  cases hc : (hasB R.pr.length p && hasB R.pr.length q) with
  | false =>
    rw [hc, if_neg Bool.false_ne_true] at hst
    rw [if_neg (by decide), if_neg (by decide)]
    have HST := Lib.hid hst
    have HFIN : Hid (∀ w1, Touch (RF rg ag bg cg dg) X w1 → RAt w1 rg ag bg cg dg R → ∀ Z, Touch (fun b => b = b0) w1 Z → Touch (RF rg ag bg cg dg) W Z ∧ RAt Z rg ag bg cg dg R) := Lib.hid (fun w1 t h1 Z tz => r_fin hbX t h1 (by omega) n0 tz)
    have HP0 := Lib.hid p0
    have HN0 := Lib.hid n0
    have HE := Lib.hid (And.intro hX hb0)
    clear hst h hX0 hbX p0 n0 hX hb0 hc
    go_enter Try.func36, Try.ntmps36
    go_wp2_with fail
    rw [HE.out.1, HE.out.2]
    clear HE
    go_wp2_with fail
    refine H46.out.mono ?_
    rintro e wq ⟨rfl, rfl⟩
    go_wp2_with fail
    refine HST.out.mono ?_
    rintro e w1 ⟨rfl, t1, h1⟩
    have b1 := HP0.out.touch t1 HN0.out
    have bz := (((((b1.set (j := 0) rfl (.int .i64 0)).set (j := 1) rfl (.int .u8 0)).set (j := 2) rfl (.int .i64 0)).set (j := 3) rfl (.slice none 0 0)).set (j := 4) rfl (.slice none 0 0))
    have r0 := bz.c 0 _ rfl
    have r1 := bz.c 1 _ rfl
    have r2 := bz.c 2 _ rfl
    have r3 := bz.c 3 _ rfl
    have r4 := bz.c 4 _ rfl
    have s0 := b1.c 0 _ rfl
    have sf0 := b1.f 0
    have s1 := b1.c 1 _ rfl
    have sf1 := b1.f 1
    have s2 := b1.c 2 _ rfl
    have sf2 := b1.f 2
    have s3 := b1.c 3 _ rfl
    have sf3 := b1.f 3
    have s4 := b1.c 4 _ rfl
    have sf4 := b1.f 4
    have sl := b1.l
    have HF := Lib.hid (HFIN.out w1 t1 h1 _ ((((((Touch.refl (fun b => b = b0) w1).setCell ⟨b0, 0, none⟩ (.int .i64 0) (fun _ => rfl)).setCell ⟨b0, 1, none⟩ (.int .u8 0) (fun _ => rfl)).setCell ⟨b0, 2, none⟩ (.int .i64 0) (fun _ => rfl)).setCell ⟨b0, 3, none⟩ (.slice none 0 0) (fun _ => rfl)).setCell ⟨b0, 4, none⟩ (.slice none 0 0) (fun _ => rfl)))
    clear t1 h1 b1 bz
    go_wp2_with fail
    all_goals (refine bodyPost_ret (v := .tuple #[aagg zp, .bool false]) (r_annd_res (x := zp) _ _ _ _ rfl rfl r0 r1 r2 r3 r4) rfl ⟨rfl, HF.out⟩)
  | true =>
    rw [hc, if_pos rfl] at hst
    rw [if_pos rfl, if_pos rfl]
    have hc2 := hc
    rw [Bool.and_eq_true] at hc2
    obtain ⟨i, rfl, hi⟩ := hasB_yes hc2.1
    obtain ⟨j, rfl, hj⟩ := hasB_yes hc2.2
    clear hc2
    rw [Int.toNat_natCast] at hst ⊢
    have HST := Lib.hid hst
    obtain ⟨x, hx⟩ : ∃ x, R.proc (j : Int) = x := ⟨_, rfl⟩
    have HCELL : Hid (∀ w1, RAt w1 rg ag bg cg dg (R.tick i) → w1.cell? ⟨ag, j * 5, none⟩ = some (.int .i64 x.s) ∧ w1.cell? ⟨ag, j * 5 + 1, none⟩ = some (.int .u8 x.k) ∧ w1.cell? ⟨ag, j * 5 + 2, none⟩ = some (.int .i64 x.m) ∧ w1.cell? ⟨ag, j * 5 + 3, none⟩ = some (.slice none 0 0) ∧ w1.cell? ⟨ag, j * 5 + 4, none⟩ = some (.slice none 0 0)) := Lib.hid (fun w1 h1 => by
      have e := tick_acs R (i := i) hj
      rw [Me.proc_yes (M := R.tick i) (by rw [tick_len]; exact hj), hx] at e
      have a := fun q v hq hv => h1.acell (i := j) (by rw [tick_len]; exact hj) q v hq (by rw [e]; exact hv)
      exact ⟨a 0 _ (by decide) rfl, a 1 _ (by decide) rfl, a 2 _ (by decide) rfl, a 3 _ (by decide) rfl, a 4 _ (by decide) rfl⟩)
    have HRG : Hid (∀ w1, RAt w1 rg ag bg cg dg (R.tick i) → w1.cell? ⟨rg, 0, none⟩ = some (.slice (some ⟨ag, 0, none⟩) R.pr.length R.pr.length) ∧ ag < w1.heap.size) := Lib.hid (fun w1 h1 => ⟨by have := h1.br.c 0 _ rfl; rw [tick_len] at this; exact this, h1.ba.l⟩)
    rw [hx]
    have HFIN : Hid (∀ w1, Touch (RF rg ag bg cg dg) X w1 → RAt w1 rg ag bg cg dg (R.tick i) → ∀ Z, Touch (fun b => b = b0) w1 Z → Touch (RF rg ag bg cg dg) W Z ∧ RAt Z rg ag bg cg dg (R.tick i)) := Lib.hid (fun w1 t h1 Z tz => r_fin hbX t h1 (by omega) n0 tz)
    have HP0 := Lib.hid p0
    have HN0 := Lib.hid n0
    have HE := Lib.hid (And.intro hX hb0)
    have lpp := h.lp
    have lss := h.ls
    have i1 : (j : Int) < (R.pr.length : Int) := by omega
    clear hst h hX0 hbX p0 n0 hX hb0 hc hx
    generalize R.tick i = R1 at *
    generalize R.pr.length = n at *
    generalize R.sl.length = n' at *
    go_enter Try.func36, Try.ntmps36
    go_wp2_with fail
    rw [HE.out.1, HE.out.2]
    clear HE
    go_wp2_with fail
    refine H46.out.mono ?_
    rintro e wq ⟨rfl, rfl⟩
    go_wp2_with fail
    refine HST.out.mono ?_
    rintro e w1 ⟨rfl, t1, h1⟩
    have b1 := HP0.out.touch t1 HN0.out
    have bz := (((((b1.set (j := 0) rfl (.int .i64 x.s)).set (j := 1) rfl (.int .u8 x.k)).set (j := 2) rfl (.int .i64 x.m)).set (j := 3) rfl (.slice none 0 0)).set (j := 4) rfl (.slice none 0 0))
    have r0 := bz.c 0 _ rfl
    have r1 := bz.c 1 _ rfl
    have r2 := bz.c 2 _ rfl
    have r3 := bz.c 3 _ rfl
    have r4 := bz.c 4 _ rfl
    have s0 := b1.c 0 _ rfl
    have sf0 := b1.f 0
    have s1 := b1.c 1 _ rfl
    have sf1 := b1.f 1
    have s2 := b1.c 2 _ rfl
    have sf2 := b1.f 2
    have s3 := b1.c 3 _ rfl
    have sf3 := b1.f 3
    have s4 := b1.c 4 _ rfl
    have sf4 := b1.f 4
    have sl := b1.l
    obtain ⟨a0, a1, a2, a3, a4⟩ := HCELL.out w1 h1
    obtain ⟨c1, cl⟩ := HRG.out w1 h1
    have rl := h1.br.l
    have HF := Lib.hid (HFIN.out w1 t1 h1 _ ((((((Touch.refl (fun b => b = b0) w1).setCell ⟨b0, 0, none⟩ (.int .i64 x.s) (fun _ => rfl)).setCell ⟨b0, 1, none⟩ (.int .u8 x.k) (fun _ => rfl)).setCell ⟨b0, 2, none⟩ (.int .i64 x.m) (fun _ => rfl)).setCell ⟨b0, 3, none⟩ (.slice none 0 0) (fun _ => rfl)).setCell ⟨b0, 4, none⟩ (.slice none 0 0) (fun _ => rfl)))
    clear t1 h1 b1 bz
    go_wp2_with fail
    all_goals (refine bodyPost_ret (v := .tuple #[aagg x, .bool true]) (r_annd_res (x := x) _ _ _ _ rfl rfl r0 r1 r2 r3 r4) rfl ⟨rfl, HF.out⟩)
theorem r_slot_res {x : S7} (Z : World) (t : Array Value) (b0 : Nat) (b : Bool) (h6 : t[6]? = some (.pointer (some ⟨b0, 0, none⟩))) (h7 : t[7]? = some (.bool b)) (r0 : Z.cell? ⟨b0, 0, none⟩ = some (.int .i64 x.i)) (r1 : Z.cell? ⟨b0, 1, none⟩ = some (.int .i64 x.p)) (r2 : Z.cell? ⟨b0, 2, none⟩ = some (.int .i64 x.s)) (r3 : Z.cell? ⟨b0, 3, none⟩ = some (.int .u8 x.k)) (r4 : Z.cell? ⟨b0, 4, none⟩ = some (.int .i64 x.m)) (r5 : Z.cell? ⟨b0, 5, none⟩ = some (.slice none 0 0)) (r6 : Z.cell? ⟨b0, 6, none⟩ = some (.slice none 0 0)) : (results Try.f40 t).run Try.prog Z = .ok (.tuple #[sagg x, .bool b]) Z := by
  unfold sagg
  simp [results, Try.results40, go_sem, h6, h7, r0, r1, r2, r3, r4, r5, r6]
set_option maxRecDepth 100000 in
set_option maxHeartbeats 2000000 in
theorem r_slot (h : RAt W rg ag bg cg dg R) (p q : Int) : Calls Try.prog 40 #[.pointer (some ⟨rg, 0, none⟩), .int .i64 p, .int .i64 q] W fun e W' => e = .returned (.tuple #[sagg (if (hasB R.pr.length p && hasB R.sl.length q) then R.slot q else zs), .bool (hasB R.pr.length p && hasB R.sl.length q)]) ∧ Touch (RF rg ag bg cg dg) W W' ∧ RAt W' rg ag bg cg dg (if (hasB R.pr.length p && hasB R.sl.length q) = true then R.tick p.toNat else R) := by
  obtain ⟨X, hX⟩ : ∃ X, W.alloc (.cells #[.int .i64 0, .int .i64 0, .int .i64 0, .int .u8 0, .int .i64 0, .slice none 0 0, .slice none 0 0] 47) = X := ⟨_, rfl⟩
  obtain ⟨b0, hb0⟩ : ∃ b0, W.heap.size = b0 := ⟨_, rfl⟩
  have hbX : Below W.heap.size W X := by rw [← hX]; exact (Below.refl _ _).alloc (Nat.le_refl _) _
  have p0 : Blk X b0 [.int .i64 0, .int .i64 0, .int .i64 0, .int .u8 0, .int .i64 0, .slice none 0 0, .slice none 0 0] := by rw [← hX, ← hb0]; exact Blk.new _ _ _
  have hX0 := h.below hbX
  have n0 : ¬ RF rg ag bg cg dg b0 := fun e => by have := h.foot _ e; omega
  have H46 := Lib.hid (r_place hX0 q)
  have hst := r_step hX0 p (hasB R.sl.length q)
  cases hc : (hasB R.pr.length p && hasB R.sl.length q) with
  | false =>
    rw [hc, if_neg Bool.false_ne_true] at hst
    rw [if_neg (by decide), if_neg (by decide)]
    have HST := Lib.hid hst
    have HFIN : Hid (∀ w1, Touch (RF rg ag bg cg dg) X w1 → RAt w1 rg ag bg cg dg R → ∀ Z, Touch (fun b => b = b0) w1 Z → Touch (RF rg ag bg cg dg) W Z ∧ RAt Z rg ag bg cg dg R) := Lib.hid (fun w1 t h1 Z tz => r_fin hbX t h1 (by omega) n0 tz)
    have HP0 := Lib.hid p0
    have HN0 := Lib.hid n0
    have HE := Lib.hid (And.intro hX hb0)
    clear hst h hX0 hbX p0 n0 hX hb0 hc
    go_enter Try.func40, Try.ntmps40
    go_wp2_with fail
    rw [HE.out.1, HE.out.2]
    clear HE
    go_wp2_with fail
    refine H46.out.mono ?_
    rintro e wq ⟨rfl, rfl⟩
    go_wp2_with fail
    refine HST.out.mono ?_
    rintro e w1 ⟨rfl, t1, h1⟩
    have b1 := HP0.out.touch t1 HN0.out
    have bz := (((((((b1.set (j := 0) rfl (.int .i64 0)).set (j := 1) rfl (.int .i64 0)).set (j := 2) rfl (.int .i64 0)).set (j := 3) rfl (.int .u8 0)).set (j := 4) rfl (.int .i64 0)).set (j := 5) rfl (.slice none 0 0)).set (j := 6) rfl (.slice none 0 0))
    have r0 := bz.c 0 _ rfl
    have r1 := bz.c 1 _ rfl
    have r2 := bz.c 2 _ rfl
    have r3 := bz.c 3 _ rfl
    have r4 := bz.c 4 _ rfl
    have r5 := bz.c 5 _ rfl
    have r6 := bz.c 6 _ rfl
    have s0 := b1.c 0 _ rfl
    have sf0 := b1.f 0
    have s1 := b1.c 1 _ rfl
    have sf1 := b1.f 1
    have s2 := b1.c 2 _ rfl
    have sf2 := b1.f 2
    have s3 := b1.c 3 _ rfl
    have sf3 := b1.f 3
    have s4 := b1.c 4 _ rfl
    have sf4 := b1.f 4
    have s5 := b1.c 5 _ rfl
    have sf5 := b1.f 5
    have s6 := b1.c 6 _ rfl
    have sf6 := b1.f 6
    have sl := b1.l
    have HF := Lib.hid (HFIN.out w1 t1 h1 _ ((((((((Touch.refl (fun b => b = b0) w1).setCell ⟨b0, 0, none⟩ (.int .i64 0) (fun _ => rfl)).setCell ⟨b0, 1, none⟩ (.int .i64 0) (fun _ => rfl)).setCell ⟨b0, 2, none⟩ (.int .i64 0) (fun _ => rfl)).setCell ⟨b0, 3, none⟩ (.int .u8 0) (fun _ => rfl)).setCell ⟨b0, 4, none⟩ (.int .i64 0) (fun _ => rfl)).setCell ⟨b0, 5, none⟩ (.slice none 0 0) (fun _ => rfl)).setCell ⟨b0, 6, none⟩ (.slice none 0 0) (fun _ => rfl)))
    clear t1 h1 b1 bz
    go_wp2_with fail
    all_goals (refine bodyPost_ret (v := .tuple #[sagg zs, .bool false]) (r_slot_res (x := zs) _ _ _ _ rfl rfl r0 r1 r2 r3 r4 r5 r6) rfl ⟨rfl, HF.out⟩)
  | true =>
    rw [hc, if_pos rfl] at hst
    rw [if_pos rfl, if_pos rfl]
    have hc2 := hc
    rw [Bool.and_eq_true] at hc2
    obtain ⟨i, rfl, hi⟩ := hasB_yes hc2.1
    obtain ⟨j, rfl, hj⟩ := hasB_yes hc2.2
    clear hc2
    rw [Int.toNat_natCast] at hst ⊢
    have HST := Lib.hid hst
    obtain ⟨x, hx⟩ : ∃ x, R.slot (j : Int) = x := ⟨_, rfl⟩
    have HCELL : Hid (∀ w1, RAt w1 rg ag bg cg dg (R.tick i) → w1.cell? ⟨dg, j * 7, none⟩ = some (.int .i64 x.i) ∧ w1.cell? ⟨dg, j * 7 + 1, none⟩ = some (.int .i64 x.p) ∧ w1.cell? ⟨dg, j * 7 + 2, none⟩ = some (.int .i64 x.s) ∧ w1.cell? ⟨dg, j * 7 + 3, none⟩ = some (.int .u8 x.k) ∧ w1.cell? ⟨dg, j * 7 + 4, none⟩ = some (.int .i64 x.m) ∧ w1.cell? ⟨dg, j * 7 + 5, none⟩ = some (.slice none 0 0) ∧ w1.cell? ⟨dg, j * 7 + 6, none⟩ = some (.slice none 0 0)) := Lib.hid (fun w1 h1 => by
      have e : (R.tick i).sl[j]'hj = x := by rw [← hx, Me.slot_yes hj]; rfl
      have a := fun q v hq hv => h1.dcell (i := j) hj q v hq (by rw [e]; exact hv)
      exact ⟨a 0 _ (by decide) rfl, a 1 _ (by decide) rfl, a 2 _ (by decide) rfl, a 3 _ (by decide) rfl, a 4 _ (by decide) rfl, a 5 _ (by decide) rfl, a 6 _ (by decide) rfl⟩)
    have HRG : Hid (∀ w1, RAt w1 rg ag bg cg dg (R.tick i) → w1.cell? ⟨rg, 3, none⟩ = some (.slice (some ⟨dg, 0, none⟩) R.sl.length R.sl.length) ∧ dg < w1.heap.size) := Lib.hid (fun w1 h1 => ⟨h1.br.c 3 _ rfl, h1.bd.l⟩)
    rw [hx]
    have HFIN : Hid (∀ w1, Touch (RF rg ag bg cg dg) X w1 → RAt w1 rg ag bg cg dg (R.tick i) → ∀ Z, Touch (fun b => b = b0) w1 Z → Touch (RF rg ag bg cg dg) W Z ∧ RAt Z rg ag bg cg dg (R.tick i)) := Lib.hid (fun w1 t h1 Z tz => r_fin hbX t h1 (by omega) n0 tz)
    have HP0 := Lib.hid p0
    have HN0 := Lib.hid n0
    have HE := Lib.hid (And.intro hX hb0)
    have lpp := h.lp
    have lss := h.ls
    have i1 : (j : Int) < (R.sl.length : Int) := by omega
    clear hst h hX0 hbX p0 n0 hX hb0 hc hx
    generalize R.tick i = R1 at *
    generalize R.pr.length = n at *
    generalize R.sl.length = n' at *
    go_enter Try.func40, Try.ntmps40
    go_wp2_with fail
    rw [HE.out.1, HE.out.2]
    clear HE
    go_wp2_with fail
    refine H46.out.mono ?_
    rintro e wq ⟨rfl, rfl⟩
    go_wp2_with fail
    refine HST.out.mono ?_
    rintro e w1 ⟨rfl, t1, h1⟩
    have b1 := HP0.out.touch t1 HN0.out
    have bz := (((((((b1.set (j := 0) rfl (.int .i64 x.i)).set (j := 1) rfl (.int .i64 x.p)).set (j := 2) rfl (.int .i64 x.s)).set (j := 3) rfl (.int .u8 x.k)).set (j := 4) rfl (.int .i64 x.m)).set (j := 5) rfl (.slice none 0 0)).set (j := 6) rfl (.slice none 0 0))
    have r0 := bz.c 0 _ rfl
    have r1 := bz.c 1 _ rfl
    have r2 := bz.c 2 _ rfl
    have r3 := bz.c 3 _ rfl
    have r4 := bz.c 4 _ rfl
    have r5 := bz.c 5 _ rfl
    have r6 := bz.c 6 _ rfl
    have s0 := b1.c 0 _ rfl
    have sf0 := b1.f 0
    have s1 := b1.c 1 _ rfl
    have sf1 := b1.f 1
    have s2 := b1.c 2 _ rfl
    have sf2 := b1.f 2
    have s3 := b1.c 3 _ rfl
    have sf3 := b1.f 3
    have s4 := b1.c 4 _ rfl
    have sf4 := b1.f 4
    have s5 := b1.c 5 _ rfl
    have sf5 := b1.f 5
    have s6 := b1.c 6 _ rfl
    have sf6 := b1.f 6
    have sl := b1.l
    obtain ⟨a0, a1, a2, a3, a4, a5, a6⟩ := HCELL.out w1 h1
    obtain ⟨c1, cl⟩ := HRG.out w1 h1
    have rl := h1.br.l
    have HF := Lib.hid (HFIN.out w1 t1 h1 _ ((((((((Touch.refl (fun b => b = b0) w1).setCell ⟨b0, 0, none⟩ (.int .i64 x.i) (fun _ => rfl)).setCell ⟨b0, 1, none⟩ (.int .i64 x.p) (fun _ => rfl)).setCell ⟨b0, 2, none⟩ (.int .i64 x.s) (fun _ => rfl)).setCell ⟨b0, 3, none⟩ (.int .u8 x.k) (fun _ => rfl)).setCell ⟨b0, 4, none⟩ (.int .i64 x.m) (fun _ => rfl)).setCell ⟨b0, 5, none⟩ (.slice none 0 0) (fun _ => rfl)).setCell ⟨b0, 6, none⟩ (.slice none 0 0) (fun _ => rfl)))
    clear t1 h1 b1 bz
    go_wp2_with fail
    all_goals (refine bodyPost_ret (v := .tuple #[sagg x, .bool true]) (r_slot_res (x := x) _ _ _ _ rfl rfl r0 r1 r2 r3 r4 r5 r6) rfl ⟨rfl, HF.out⟩)
theorem r_snap_res {x : N7} (Z : World) (t : Array Value) (b0 : Nat) (b : Bool) (h6 : t[4]? = some (.pointer (some ⟨b0, 0, none⟩))) (h7 : t[5]? = some (.bool b)) (r0 : Z.cell? ⟨b0, 0, none⟩ = some (.int .i64 x.i)) (r1 : Z.cell? ⟨b0, 1, none⟩ = some (.slice none 0 0)) (r2 : Z.cell? ⟨b0, 2, none⟩ = some (.slice none 0 0)) (r3 : Z.cell? ⟨b0, 3, none⟩ = some (.slice none 0 0)) (r4 : Z.cell? ⟨b0, 4, none⟩ = some (.int .i64 0)) (r5 : Z.cell? ⟨b0, 5, none⟩ = some (.slice none 0 0)) (r6 : Z.cell? ⟨b0, 6, none⟩ = some (.slice x.A x.n x.c)) : (results Try.f43 t).run Try.prog Z = .ok (.tuple #[nagg x, .bool b]) Z := by
  unfold nagg
  simp [results, Try.results43, go_sem, h6, h7, r0, r1, r2, r3, r4, r5, r6]
set_option maxRecDepth 100000 in
set_option maxHeartbeats 2000000 in
theorem r_snap (h : RAt W rg ag bg cg dg R) (p : Int) : Calls Try.prog 43 #[.pointer (some ⟨rg, 0, none⟩), .int .i64 p] W fun e W' => e = .returned (.tuple #[nagg (if (hasB R.pr.length p) then R.sn else zn), .bool (hasB R.pr.length p)]) ∧ Touch (RF rg ag bg cg dg) W W' ∧ RAt W' rg ag bg cg dg (if (hasB R.pr.length p) = true then R.tick p.toNat else R) := by
  obtain ⟨X, hX⟩ : ∃ X, W.alloc (.cells #[.int .i64 0, .slice none 0 0, .slice none 0 0, .slice none 0 0, .int .i64 0, .slice none 0 0, .slice none 0 0] 50) = X := ⟨_, rfl⟩
  obtain ⟨b0, hb0⟩ : ∃ b0, W.heap.size = b0 := ⟨_, rfl⟩
  have hbX : Below W.heap.size W X := by rw [← hX]; exact (Below.refl _ _).alloc (Nat.le_refl _) _
  have p0 : Blk X b0 [.int .i64 0, .slice none 0 0, .slice none 0 0, .slice none 0 0, .int .i64 0, .slice none 0 0, .slice none 0 0] := by rw [← hX, ← hb0]; exact Blk.new _ _ _
  have hX0 := h.below hbX
  have n0 : ¬ RF rg ag bg cg dg b0 := fun e => by have := h.foot _ e; omega
  have hst := r_step hX0 p true
  simp only [Bool.and_true] at hst
  cases hc : (hasB R.pr.length p) with
  | false =>
    rw [hc, if_neg Bool.false_ne_true] at hst
    rw [if_neg (by decide), if_neg (by decide)]
    have HST := Lib.hid hst
    have HFIN : Hid (∀ w1, Touch (RF rg ag bg cg dg) X w1 → RAt w1 rg ag bg cg dg R → ∀ Z, Touch (fun b => b = b0) w1 Z → Touch (RF rg ag bg cg dg) W Z ∧ RAt Z rg ag bg cg dg R) := Lib.hid (fun w1 t h1 Z tz => r_fin hbX t h1 (by omega) n0 tz)
    have HP0 := Lib.hid p0
    have HN0 := Lib.hid n0
    have HE := Lib.hid (And.intro hX hb0)
    clear hst h hX0 hbX p0 n0 hX hb0 hc
    go_enter Try.func43, Try.ntmps43
    go_wp2_with fail
    rw [HE.out.1, HE.out.2]
    clear HE
    go_wp2_with fail
    refine HST.out.mono ?_
    rintro e w1 ⟨rfl, t1, h1⟩
    have b1 := HP0.out.touch t1 HN0.out
    have bz := (((((((b1.set (j := 0) rfl (.int .i64 0)).set (j := 1) rfl (.slice none 0 0)).set (j := 2) rfl (.slice none 0 0)).set (j := 3) rfl (.slice none 0 0)).set (j := 4) rfl (.int .i64 0)).set (j := 5) rfl (.slice none 0 0)).set (j := 6) rfl (.slice none 0 0))
    have r0 := bz.c 0 _ rfl
    have r1 := bz.c 1 _ rfl
    have r2 := bz.c 2 _ rfl
    have r3 := bz.c 3 _ rfl
    have r4 := bz.c 4 _ rfl
    have r5 := bz.c 5 _ rfl
    have r6 := bz.c 6 _ rfl
    have s0 := b1.c 0 _ rfl
    have sf0 := b1.f 0
    have s1 := b1.c 1 _ rfl
    have sf1 := b1.f 1
    have s2 := b1.c 2 _ rfl
    have sf2 := b1.f 2
    have s3 := b1.c 3 _ rfl
    have sf3 := b1.f 3
    have s4 := b1.c 4 _ rfl
    have sf4 := b1.f 4
    have s5 := b1.c 5 _ rfl
    have sf5 := b1.f 5
    have s6 := b1.c 6 _ rfl
    have sf6 := b1.f 6
    have sl := b1.l
    have HF := Lib.hid (HFIN.out w1 t1 h1 _ ((((((((Touch.refl (fun b => b = b0) w1).setCell ⟨b0, 0, none⟩ (.int .i64 0) (fun _ => rfl)).setCell ⟨b0, 1, none⟩ (.slice none 0 0) (fun _ => rfl)).setCell ⟨b0, 2, none⟩ (.slice none 0 0) (fun _ => rfl)).setCell ⟨b0, 3, none⟩ (.slice none 0 0) (fun _ => rfl)).setCell ⟨b0, 4, none⟩ (.int .i64 0) (fun _ => rfl)).setCell ⟨b0, 5, none⟩ (.slice none 0 0) (fun _ => rfl)).setCell ⟨b0, 6, none⟩ (.slice none 0 0) (fun _ => rfl)))
    clear t1 h1 b1 bz
    go_wp2_with fail
    all_goals (refine bodyPost_ret (v := .tuple #[nagg zn, .bool false]) (r_snap_res (x := zn) _ _ _ _ rfl rfl r0 r1 r2 r3 r4 r5 r6) rfl ⟨rfl, HF.out⟩)
  | true =>
    rw [hc, if_pos rfl] at hst
    rw [if_pos rfl, if_pos rfl]
    obtain ⟨i, rfl, hi⟩ := hasB_yes hc
    rw [Int.toNat_natCast] at hst ⊢
    have HST := Lib.hid hst
    obtain ⟨x, hx⟩ : ∃ x, R.sn = x := ⟨_, rfl⟩
    have HCELL : Hid (∀ w1, RAt w1 rg ag bg cg dg (R.tick i) → w1.cell? ⟨rg, 4, none⟩ = some (.int .i64 x.i) ∧ w1.cell? ⟨rg, 5, none⟩ = some (.slice none 0 0) ∧ w1.cell? ⟨rg, 6, none⟩ = some (.slice none 0 0) ∧ w1.cell? ⟨rg, 7, none⟩ = some (.slice none 0 0) ∧ w1.cell? ⟨rg, 8, none⟩ = some (.int .i64 0) ∧ w1.cell? ⟨rg, 9, none⟩ = some (.slice none 0 0) ∧ w1.cell? ⟨rg, 10, none⟩ = some (.slice x.A x.n x.c)) := Lib.hid (fun w1 h1 => by
      have e : (R.tick i).sn = x := hx
      have a := fun j v hv => h1.br.c j v hv
      rw [e] at a
      exact ⟨a 4 _ rfl, a 5 _ rfl, a 6 _ rfl, a 7 _ rfl, a 8 _ rfl, a 9 _ rfl, a 10 _ rfl⟩)
    have HRG : Hid (∀ w1, RAt w1 rg ag bg cg dg (R.tick i) → True ∧ True) := Lib.hid (fun w1 h1 => ⟨trivial, trivial⟩)
    rw [hx]
    have HFIN : Hid (∀ w1, Touch (RF rg ag bg cg dg) X w1 → RAt w1 rg ag bg cg dg (R.tick i) → ∀ Z, Touch (fun b => b = b0) w1 Z → Touch (RF rg ag bg cg dg) W Z ∧ RAt Z rg ag bg cg dg (R.tick i)) := Lib.hid (fun w1 t h1 Z tz => r_fin hbX t h1 (by omega) n0 tz)
    have HP0 := Lib.hid p0
    have HN0 := Lib.hid n0
    have HE := Lib.hid (And.intro hX hb0)
    have lpp := h.lp
    have lss := h.ls
    clear hst h hX0 hbX p0 n0 hX hb0 hc hx
    generalize R.tick i = R1 at *
    generalize R.pr.length = n at *
    generalize R.sl.length = n' at *
    go_enter Try.func43, Try.ntmps43
    go_wp2_with fail
    rw [HE.out.1, HE.out.2]
    clear HE
    go_wp2_with fail
    refine HST.out.mono ?_
    rintro e w1 ⟨rfl, t1, h1⟩
    have b1 := HP0.out.touch t1 HN0.out
    have bz := (((((((b1.set (j := 0) rfl (.int .i64 x.i)).set (j := 1) rfl (.slice none 0 0)).set (j := 2) rfl (.slice none 0 0)).set (j := 3) rfl (.slice none 0 0)).set (j := 4) rfl (.int .i64 0)).set (j := 5) rfl (.slice none 0 0)).set (j := 6) rfl (.slice x.A x.n x.c))
    have r0 := bz.c 0 _ rfl
    have r1 := bz.c 1 _ rfl
    have r2 := bz.c 2 _ rfl
    have r3 := bz.c 3 _ rfl
    have r4 := bz.c 4 _ rfl
    have r5 := bz.c 5 _ rfl
    have r6 := bz.c 6 _ rfl
    have s0 := b1.c 0 _ rfl
    have sf0 := b1.f 0
    have s1 := b1.c 1 _ rfl
    have sf1 := b1.f 1
    have s2 := b1.c 2 _ rfl
    have sf2 := b1.f 2
    have s3 := b1.c 3 _ rfl
    have sf3 := b1.f 3
    have s4 := b1.c 4 _ rfl
    have sf4 := b1.f 4
    have s5 := b1.c 5 _ rfl
    have sf5 := b1.f 5
    have s6 := b1.c 6 _ rfl
    have sf6 := b1.f 6
    have sl := b1.l
    obtain ⟨a0, a1, a2, a3, a4, a5, a6⟩ := HCELL.out w1 h1
    obtain ⟨c1, cl⟩ := HRG.out w1 h1
    have rl := h1.br.l
    have HF := Lib.hid (HFIN.out w1 t1 h1 _ ((((((((Touch.refl (fun b => b = b0) w1).setCell ⟨b0, 0, none⟩ (.int .i64 x.i) (fun _ => rfl)).setCell ⟨b0, 1, none⟩ (.slice none 0 0) (fun _ => rfl)).setCell ⟨b0, 2, none⟩ (.slice none 0 0) (fun _ => rfl)).setCell ⟨b0, 3, none⟩ (.slice none 0 0) (fun _ => rfl)).setCell ⟨b0, 4, none⟩ (.int .i64 0) (fun _ => rfl)).setCell ⟨b0, 5, none⟩ (.slice none 0 0) (fun _ => rfl)).setCell ⟨b0, 6, none⟩ (.slice x.A x.n x.c) (fun _ => rfl)))
    clear t1 h1 b1 bz
    go_wp2_with fail
    all_goals (refine bodyPost_ret (v := .tuple #[nagg x, .bool true]) (r_snap_res (x := x) _ _ _ _ rfl rfl r0 r1 r2 r3 r4 r5 r6) rfl ⟨rfl, HF.out⟩)
end
end Go.Proofs.Ythllfeogchbihac
