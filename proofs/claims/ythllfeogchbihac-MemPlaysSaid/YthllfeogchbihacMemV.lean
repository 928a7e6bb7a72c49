/- MemPlays: the document's memory: what lies in memory; Has, Place, step. -/
import Derived.Test.YthllfeogchbihacMemL
namespace Go.Proofs.Ythllfeogchbihac
open Go.RowKit
set_option linter.unusedSimpArgs false
set_option linter.unusedVariables false
theorem catn_len {α : Type} (m : Nat) (f : α → List Value) (hf : ∀ x, (f x).length = m) (l : List α) : (l.flatMap f).length = l.length * m := by
  induction l with
  | nil => simp
  | cons x l ih => rw [List.flatMap_cons, List.length_append, ih, hf, List.length_cons, Nat.succ_mul]; omega
theorem catn_get {α : Type} (m : Nat) (f : α → List Value) (hf : ∀ x, (f x).length = m) (l : List α) : ∀ i (hi : i < l.length) q, q < m → (l.flatMap f)[i * m + q]? = (f l[i])[q]? := by
  induction l with
  | nil => intro i hi; simp at hi
  | cons x l ih =>
    intro i hi q hq
    rw [List.flatMap_cons]
    cases i with
    | zero => rw [List.getElem?_append_left (by rw [hf]; omega)]; simp
    | succ i =>
      have e : (i + 1) * m + q = m + (i * m + q) := by rw [Nat.succ_mul]; omega
      rw [e, List.getElem?_append_right (by rw [hf]; omega), hf, show m + (i * m + q) - m = i * m + q by omega, ih i (by simpa using hi) q hq]
      simp
theorem catn_set {α : Type} (m : Nat) (f : α → List Value) (hf : ∀ x, (f x).length = m) (l : List α) : ∀ i (hi : i < l.length) q v (x' : α), q < m → (f l[i]).set q v = f x' → (l.flatMap f).set (i * m + q) v = (l.set i x').flatMap f := by
  induction l with
  | nil => intro i hi; simp at hi
  | cons x l ih =>
    intro i hi q v x' hq h
    rw [List.flatMap_cons]
    cases i with
    | zero =>
      rw [List.set_append_left _ _ (by rw [hf]; omega), List.set_cons_zero, List.flatMap_cons]
      simp only [Nat.zero_mul, Nat.zero_add]
      rw [← h]
      simp
    | succ i =>
      have e : (i + 1) * m + q = m + (i * m + q) := by rw [Nat.succ_mul]; omega
      rw [e, List.set_append_right _ _ (by rw [hf]; omega), hf, show m + (i * m + q) - m = i * m + q by omega, List.set_cons_succ, List.flatMap_cons, ih i (by simpa using hi) q v x' hq (by simpa using h)]
def acs5 (x : P7) : List Value := [.int .i64 x.s, .int .u8 x.k, .int .i64 x.m, .slice none 0 0, .slice none 0 0]
def acs (l : List P7) : List Value := l.flatMap acs5
def RF (rg ag bg cg dg : Nat) : Nat → Prop := fun b => b = rg ∨ b = ag ∨ b = bg ∨ b = cg ∨ b = dg
/-- The document's memory. -/
structure RAt (W : World) (rg ag bg cg dg : Nat) (R : Me) : Prop where
  br : Blk W rg (.slice (some ⟨ag, 0, none⟩) R.pr.length R.pr.length :: .slice (some ⟨bg, 0, none⟩) R.pr.length R.pr.length :: .slice (some ⟨cg, 0, none⟩) R.pr.length R.pr.length :: .slice (some ⟨dg, 0, none⟩) R.sl.length R.sl.length :: R.sn.cs)
  ba : Blk W ag (acs R.pr)
  bb : Blk W bg (R.pr.map (fun x => .int .i64 x.pos))
  bc : Blk W cg (R.pr.map (fun x => .int .i64 x.st))
  bd : Blk W dg (scs R.sl)
  nd : rg ≠ ag ∧ rg ≠ bg ∧ rg ≠ cg ∧ rg ≠ dg ∧ ag ≠ bg ∧ ag ≠ cg ∧ ag ≠ dg ∧ bg ≠ cg ∧ bg ≠ dg ∧ cg ≠ dg
  lp : R.pr.length ≤ 64
  ls : R.sl.length ≤ 256
section
variable {W : World} {rg ag bg cg dg : Nat} {R : Me}
theorem RAt.touch (h : RAt W rg ag bg cg dg R) {S : Nat → Prop} {W' : World} (t : Touch S W W') (hs : ∀ b, RF rg ag bg cg dg b → ¬ S b) : RAt W' rg ag bg cg dg R :=
  { h with br := h.br.touch t (hs _ (.inl rfl)), ba := h.ba.touch t (hs _ (.inr (.inl rfl))), bb := h.bb.touch t (hs _ (.inr (.inr (.inl rfl)))), bc := h.bc.touch t (hs _ (.inr (.inr (.inr (.inl rfl))))), bd := h.bd.touch t (hs _ (.inr (.inr (.inr (.inr rfl))))) }
theorem RAt.below (h : RAt W rg ag bg cg dg R) {W' : World} (hb : Below W.heap.size W W') : RAt W' rg ag bg cg dg R :=
  h.touch (Touch.of_below hb (Nat.le_refl _) (fun _ => False)) (fun _ _ e => e)
theorem RAt.foot (h : RAt W rg ag bg cg dg R) : ∀ b, RF rg ag bg cg dg b → b < W.heap.size := by
  rintro b (rfl | rfl | rfl | rfl | rfl)
  · exact h.br.l
  · exact h.ba.l
  · exact h.bb.l
  · exact h.bc.l
  · exact h.bd.l
theorem RAt.acell (h : RAt W rg ag bg cg dg R) {i : Nat} (hi : i < R.pr.length) : ∀ q v, q < 5 → (acs5 R.pr[i])[q]? = some v → W.cell? ⟨ag, i * 5 + q, none⟩ = some v := by
  intro q v hq hv
  exact h.ba.c _ _ (by rw [acs, catn_get 5 acs5 (fun _ => rfl) _ i hi q hq]; exact hv)
theorem RAt.bcell (h : RAt W rg ag bg cg dg R) {i : Nat} (hi : i < R.pr.length) : W.cell? ⟨bg, i, none⟩ = some (.int .i64 (R.pr[i]).pos) :=
  h.bb.c _ _ (by rw [List.getElem?_map, List.getElem?_eq_getElem hi]; rfl)
theorem RAt.ccell (h : RAt W rg ag bg cg dg R) {i : Nat} (hi : i < R.pr.length) : W.cell? ⟨cg, i, none⟩ = some (.int .i64 (R.pr[i]).st) :=
  h.bc.c _ _ (by rw [List.getElem?_map, List.getElem?_eq_getElem hi]; rfl)
theorem RAt.dcell (h : RAt W rg ag bg cg dg R) {i : Nat} (hi : i < R.sl.length) : ∀ q v, q < 7 → (R.sl[i]).cs[q]? = some v → W.cell? ⟨dg, i * 7 + q, none⟩ = some v := by
  intro q v hq hv
  exact h.bd.c _ _ (by rw [scs, cat_get S7.cs (fun _ => rfl) _ i hi q hq]; exact hv)
theorem map_set_same {α : Type} (l : List α) (i : Nat) (f : α → Value) (x : α) (hi : i < l.length) (e : f x = f l[i]) : (l.set i x).map f = l.map f := by
  rw [List.map_set, e]
  apply List.ext_getElem?
  intro j
  rw [List.getElem?_set]
  split
  · rename_i h
    subst h
    rw [List.length_map, if_pos hi, List.getElem?_map, List.getElem?_eq_getElem hi]; rfl
  · rfl
theorem cat_set_same {α : Type} (l : List α) (i : Nat) (f : α → List Value) (x : α) (hi : i < l.length) (e : f x = f l[i]) : (l.set i x).flatMap f = l.flatMap f := by
  induction l generalizing i with
  | nil => simp at hi
  | cons y l ih =>
    cases i with
    | zero => rw [List.set_cons_zero, List.flatMap_cons, List.flatMap_cons, e]; rfl
    | succ i => rw [List.set_cons_succ, List.flatMap_cons, List.flatMap_cons, ih i (by simpa using hi) (by simpa using e)]
/-- A process's steps are changed. -/
theorem RAt.cset (h : RAt W rg ag bg cg dg R) {i : Nat} (hi : i < R.pr.length) (n : Int) : RAt (W.setCell ⟨cg, i, none⟩ (.int .i64 n)) rg ag bg cg dg { R with pr := R.pr.set i { R.pr[i] with st := n } } := by
  obtain ⟨n1, n2, n3, n4, n5, n6, n7, n8, n9, n10⟩ := h.nd
  refine ⟨?_, ?_, ?_, ?_, h.bd.other n10 _ _, h.nd, by simpa using h.lp, h.ls⟩
  · have := h.br.other (fun e => n3 e.symm) i (.int .i64 n)
    simpa using this
  · have k := h.ba.other (fun e => n6 e.symm) i (.int .i64 n)
    rw [show acs R.pr = acs (R.pr.set i { R.pr[i] with st := n }) from (cat_set_same R.pr i acs5 { R.pr[i] with st := n } hi rfl).symm] at k
    exact k
  · have k := h.bb.other (fun e => n8 e.symm) i (.int .i64 n)
    rw [show R.pr.map (fun x => Value.int .i64 x.pos) = (R.pr.set i { R.pr[i] with st := n }).map (fun x => Value.int .i64 x.pos) from (map_set_same R.pr i (fun x => Value.int .i64 x.pos) { R.pr[i] with st := n } hi rfl).symm] at k
    exact k
  · have := h.bc.set (j := i) (by rw [List.getElem?_map, List.getElem?_eq_getElem hi]; rfl) (.int .i64 n)
    show Blk _ _ (List.map _ _)
    rw [List.map_set]
    exact this
/-- A process's position is changed. -/
theorem RAt.bset (h : RAt W rg ag bg cg dg R) {i : Nat} (hi : i < R.pr.length) (n : Int) : RAt (W.setCell ⟨bg, i, none⟩ (.int .i64 n)) rg ag bg cg dg { R with pr := R.pr.set i { R.pr[i] with pos := n } } := by
  obtain ⟨n1, n2, n3, n4, n5, n6, n7, n8, n9, n10⟩ := h.nd
  refine ⟨?_, ?_, ?_, ?_, h.bd.other n9 _ _, h.nd, by simpa using h.lp, h.ls⟩
  · have := h.br.other (fun e => n2 e.symm) i (.int .i64 n)
    simpa using this
  · have k := h.ba.other (fun e => n5 e.symm) i (.int .i64 n)
    rw [show acs R.pr = acs (R.pr.set i { R.pr[i] with pos := n }) from (cat_set_same R.pr i acs5 { R.pr[i] with pos := n } hi rfl).symm] at k
    exact k
  · have := h.bb.set (j := i) (by rw [List.getElem?_map, List.getElem?_eq_getElem hi]; rfl) (.int .i64 n)
    show Blk _ _ (List.map _ _)
    rw [List.map_set]
    exact this
  · have k := h.bc.other n8 i (.int .i64 n)
    rw [show R.pr.map (fun x => Value.int .i64 x.st) = (R.pr.set i { R.pr[i] with pos := n }).map (fun x => Value.int .i64 x.st) from (map_set_same R.pr i (fun x => Value.int .i64 x.st) { R.pr[i] with pos := n } hi rfl).symm] at k
    exact k
/-- One cell of a process's announcement is changed. -/
theorem RAt.aset (h : RAt W rg ag bg cg dg R) {i : Nat} (hi : i < R.pr.length) {q : Nat} {v : Value} {x : P7} (hq : q < 5) (hx : (acs5 R.pr[i]).set q v = acs5 x) (hp : x.pos = (R.pr[i]).pos) (hst : x.st = (R.pr[i]).st) :
    RAt (W.setCell ⟨ag, i * 5 + q, none⟩ v) rg ag bg cg dg { R with pr := R.pr.set i x } := by
  obtain ⟨n1, n2, n3, n4, n5, n6, n7, n8, n9, n10⟩ := h.nd
  have hl : i * 5 + q < (acs R.pr).length := by rw [acs, catn_len 5 acs5 (fun _ => rfl)]; omega
  refine ⟨?_, ?_, ?_, ?_, h.bd.other n7 _ _, h.nd, by simpa using h.lp, h.ls⟩
  · have := h.br.other (fun e => n1 e.symm) (i * 5 + q) v
    simpa using this
  · have := h.ba.set (List.getElem?_eq_getElem hl) v
    rw [show (acs R.pr).set (i * 5 + q) v = acs (R.pr.set i x) from catn_set 5 acs5 (fun _ => rfl) R.pr i hi q v x hq hx] at this
    exact this
  · have k := h.bb.other n5 (i * 5 + q) v
    rw [show R.pr.map (fun x => Value.int .i64 x.pos) = (R.pr.set i x).map (fun x => Value.int .i64 x.pos) from (map_set_same R.pr i (fun x => Value.int .i64 x.pos) _ hi (by rw [hp])).symm] at k
    exact k
  · have k := h.bc.other n6 (i * 5 + q) v
    rw [show R.pr.map (fun x => Value.int .i64 x.st) = (R.pr.set i x).map (fun x => Value.int .i64 x.st) from (map_set_same R.pr i (fun x => Value.int .i64 x.st) _ hi (by rw [hst])).symm] at k
    exact k
/-- One cell of a slot is changed. -/
theorem RAt.dset (h : RAt W rg ag bg cg dg R) {i : Nat} (hi : i < R.sl.length) {q : Nat} {v : Value} {x : S7} (hq : q < 7) (hx : (R.sl[i]).cs.set q v = x.cs) : RAt (W.setCell ⟨dg, i * 7 + q, none⟩ v) rg ag bg cg dg { R with sl := R.sl.set i x } := by
  obtain ⟨n1, n2, n3, n4, n5, n6, n7, n8, n9, n10⟩ := h.nd
  have hl : i * 7 + q < (scs R.sl).length := by rw [scs_len]; omega
  refine ⟨?_, h.ba.other (fun e => n7 e.symm) _ _, h.bb.other (fun e => n9 e.symm) _ _, h.bc.other (fun e => n10 e.symm) _ _, ?_, h.nd, h.lp, by simpa using h.ls⟩
  · have := h.br.other (fun e => n4 e.symm) (i * 7 + q) v
    simpa using this
  · have := h.bd.set (List.getElem?_eq_getElem hl) v
    rw [show (scs R.sl).set (i * 7 + q) v = scs (R.sl.set i x) from cat_set S7.cs (fun _ => rfl) R.sl i hi q v x hq hx] at this
    exact this
/-- One cell of the snapshot is changed. -/
theorem RAt.nset (h : RAt W rg ag bg cg dg R) {q : Nat} {v : Value} {x : N7} (hq : q < 7) (hx : R.sn.cs.set q v = x.cs) : RAt (W.setCell ⟨rg, q + 4, none⟩ v) rg ag bg cg dg { R with sn := x } := by
  obtain ⟨n1, n2, n3, n4, n5, n6, n7, n8, n9, n10⟩ := h.nd
  have hl : q < R.sn.cs.length := hq
  have h1 := h.br.set (j := q + 4) (u := R.sn.cs[q]) (by simp [List.getElem?_eq_getElem hl]) v
  simp only [List.set_cons_succ] at h1
  rw [hx] at h1
  exact { h with br := h1, ba := h.ba.other n1 _ _, bb := h.bb.other n2 _ _, bc := h.bc.other n3 _ _, bd := h.bd.other n4 _ _ }
theorem r_has (h : RAt W rg ag bg cg dg R) (p : Int) : Calls Try.prog 46 #[.pointer (some ⟨rg, 0, none⟩), .int .i64 p] W fun e W' => e = .returned (.bool (hasB R.pr.length p)) ∧ W' = W := by
  have c1 := h.br.c 1 _ rfl
  have hl := h.br.l
  have h1 := h.lp
  clear h
  obtain ⟨q, hq⟩ : ∃ q, hasB R.pr.length p = q := ⟨_, rfl⟩
  rw [hq]
  have HQ := Lib.hid hq
  clear hq
  generalize R.pr.length = n at *
  by_cases h0 : 0 ≤ p
  · go_enter Try.func46, Try.ntmps46
    go_wp2_with fail
    go_ret
    refine ⟨?_, rfl⟩
    rw [← HQ.out]
    unfold hasB
    congr 2
    simp [h0]
  · have h2 : decide (0 ≤ p) = false := decide_eq_false h0
    go_enter Try.func46, Try.ntmps46
    go_wp2_with fail
    go_ret
    refine ⟨?_, rfl⟩
    rw [← HQ.out]
    unfold hasB
    rw [decide_eq_false (fun e => by omega)]
    rfl
theorem r_place (h : RAt W rg ag bg cg dg R) (p : Int) : Calls Try.prog 56 #[.pointer (some ⟨rg, 0, none⟩), .int .i64 p] W fun e W' => e = .returned (.bool (hasB R.sl.length p)) ∧ W' = W := by
  have c1 := h.br.c 3 _ rfl
  have hl := h.br.l
  have h1 := h.ls
  clear h
  obtain ⟨q, hq⟩ : ∃ q, hasB R.sl.length p = q := ⟨_, rfl⟩
  rw [hq]
  have HQ := Lib.hid hq
  clear hq
  generalize R.sl.length = n at *
  by_cases h0 : 0 ≤ p
  · go_enter Try.func56, Try.ntmps56
    go_wp2_with fail
    go_ret
    refine ⟨?_, rfl⟩
    rw [← HQ.out]
    unfold hasB
    congr 2
    simp [h0]
  · have h2 : decide (0 ≤ p) = false := decide_eq_false h0
    go_enter Try.func56, Try.ntmps56
    go_wp2_with fail
    go_ret
    refine ⟨?_, rfl⟩
    rw [← HQ.out]
    unfold hasB
    rw [decide_eq_false (fun e => by omega)]
    rfl
theorem RAt.tick (h : RAt W rg ag bg cg dg R) {i : Nat} (hi : i < R.pr.length) : RAt (W.setCell ⟨cg, i, none⟩ (.int .i64 (wrap64 ((R.pr[i]).st + 1)))) rg ag bg cg dg (R.tick i) := by
  have h1 := h.cset hi (wrap64 ((R.pr[i]).st + 1))
  unfold Me.tick
  rw [Me.proc_yes hi]
  exact h1
/-- A step of the document. -/
theorem r_step (h : RAt W rg ag bg cg dg R) (p : Int) (b : Bool) : Calls Try.prog 54 #[.pointer (some ⟨rg, 0, none⟩), .int .i64 p, .bool b] W fun e W' => e = .returned (.bool (hasB R.pr.length p && b)) ∧ Touch (RF rg ag bg cg dg) W W' ∧ RAt W' rg ag bg cg dg (if (hasB R.pr.length p && b) = true then R.tick p.toNat else R) := by
  have HH := Lib.hid (r_has h p)
  cases hb : hasB R.pr.length p with
  | false =>
    rw [hb] at HH
    have H := Lib.hid h
    clear h hb
    go_enter Try.func54, Try.ntmps54
    go_wp2_with fail
    refine HH.out.mono ?_
    rintro e w1 ⟨rfl, rfl⟩
    go_wp2_with fail
    go_ret
    exact ⟨by simp, Touch.refl _ _, by simpa using H.out⟩
  | true =>
    rw [hb] at HH
    obtain ⟨i, rfl, hi⟩ := hasB_yes hb
    cases b with
    | false =>
      have H := Lib.hid h
      clear h hb
      go_enter Try.func54, Try.ntmps54
      go_wp2_with fail
      refine HH.out.mono ?_
      rintro e w1 ⟨rfl, rfl⟩
      go_wp2_with fail
      go_ret
      exact ⟨by simp, Touch.refl _ _, by simpa using H.out⟩
    | true =>
      have H := Lib.hid (h.tick hi)
      have c2 := h.br.c 2 _ rfl
      have hl := h.br.l
      have cl := h.bc.l
      have cc := h.ccell hi
      have cf := h.bc.f i
      have h1 := h.lp
      have i1 : (i : Int) < (R.pr.length : Int) := by omega
      have T : Hid (∀ v, Touch (RF rg ag bg cg dg) W (W.setCell ⟨cg, i, none⟩ v)) := Lib.hid (fun v => (Touch.refl _ _).setCell _ _ (fun _ => .inr (.inr (.inr (.inl rfl)))))
      rw [Int.toNat_natCast]
      clear h hb
      generalize R.pr[i] = x at *
      generalize R.tick i = R1 at *
      generalize R.pr.length = n at *
      clear hi
      go_enter Try.func54, Try.ntmps54
      go_wp2_with fail
      refine HH.out.mono ?_
      rintro e w1 ⟨rfl, rfl⟩
      go_wp2_with fail
      go_ret
      exact ⟨by simp, T.out _, by simpa using H.out⟩
end
end Go.Proofs.Ythllfeogchbihac
