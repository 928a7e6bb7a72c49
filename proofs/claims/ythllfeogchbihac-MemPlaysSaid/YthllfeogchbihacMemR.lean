/- MemOwn: plain facts: what an access changes. -/
import Derived.Test.YthllfeogchbihacMemQ
namespace Go.Proofs.Ythllfeogchbihac
open Go.RowKit
set_option linter.unusedSimpArgs false
set_option linter.unusedVariables false
theorem pls_even (l : List P7) : ∀ i (hi : i < l.length), (pls l)[2 * i]? = some (l[i]).s ∧ (pls l)[2 * i + 1]? = some (l[i]).pos := by
  induction l with
  | nil => intro i hi; simp at hi
  | cons x l ih =>
    intro i hi
    have e : pls (x :: l) = x.s :: x.pos :: pls l := rfl
    rw [e]
    cases i with
    | zero => exact ⟨rfl, rfl⟩
    | succ i =>
      have := ih i (by simpa using hi)
      rw [show 2 * (i + 1) = (2 * i + 1) + 1 by omega, List.getElem?_cons_succ, List.getElem?_cons_succ, List.getElem?_cons_succ, List.getElem?_cons_succ]
      exact this
theorem looks_s (M : Me) {i : Nat} (hi : i < M.pr.length) : (looks M)[2 * i]? = some (M.proc i).s := by
  unfold looks
  rw [List.getElem?_append_left (by rw [pls_len]; omega), (pls_even _ i hi).1, Me.proc_yes hi]
theorem looks_pos (M : Me) {i : Nat} (hi : i < M.pr.length) : (looks M)[2 * i + 1]? = some (M.proc i).pos := by
  unfold looks
  rw [List.getElem?_append_left (by rw [pls_len]; omega), (pls_even _ i hi).2, Me.proc_yes hi]
theorem looks_i (M : Me) {j : Nat} (hj : j < M.sl.length) : (looks M)[2 * M.pr.length + j]? = some (M.slot j).i := by
  unfold looks
  rw [List.getElem?_append_right (by rw [pls_len]; omega), pls_len, show 2 * M.pr.length + j - 2 * M.pr.length = j by omega, List.getElem?_map, List.getElem?_eq_getElem hj, Me.slot_yes hj]
  rfl
theorem looks_ext {M M' : Me} {wh : Int} (lp : M'.pr.length = M.pr.length) (ls : M'.sl.length = M.sl.length)
    (hs : ∀ i : Nat, i < M.pr.length → 2 * (i : Int) ≠ wh → (M'.proc i).s = (M.proc i).s) (hp : ∀ i : Nat, i < M.pr.length → 2 * (i : Int) + 1 ≠ wh → (M'.proc i).pos = (M.proc i).pos)
    (hi : ∀ j : Nat, j < M.sl.length → 2 * (M.pr.length : Int) + j ≠ wh → (M'.slot j).i = (M.slot j).i) : ∀ j : Nat, (j : Int) ≠ wh → (looks M')[j]? = (looks M)[j]? := by
  intro j hj
  by_cases h1 : j < 2 * M.pr.length
  · by_cases h2 : j % 2 = 0
    · have e : j = 2 * (j / 2) := by omega
      have hl : j / 2 < M.pr.length := by omega
      rw [e, looks_s M hl, looks_s M' (by rw [lp]; exact hl), hs _ hl (by omega)]
    · have e : j = 2 * (j / 2) + 1 := by omega
      have hl : j / 2 < M.pr.length := by omega
      rw [e, looks_pos M hl, looks_pos M' (by rw [lp]; exact hl), hp _ hl (by omega)]
  · by_cases h2 : j < 2 * M.pr.length + M.sl.length
    · obtain ⟨b, rfl⟩ : ∃ b, j = 2 * M.pr.length + b := ⟨j - 2 * M.pr.length, by omega⟩
      have hl : b < M.sl.length := by omega
      rw [looks_i M hl]
      have := looks_i M' (j := b) (by rw [ls]; exact hl)
      rw [lp] at this
      rw [this, hi b hl (by omega)]
    · rw [List.getElem?_eq_none (by rw [looks_len, lp, ls]; omega), List.getElem?_eq_none (by rw [looks_len]; omega)]
theorem proc_set {M M' : Me} {i : Nat} {x : P7} (h : M'.pr = M.pr.set i x) {j : Nat} (hj : j < M.pr.length) : M'.proc j = if i = j then x else M.proc j := by
  have hl : M'.pr.length = M.pr.length := by rw [h, List.length_set]
  rw [Me.proc_yes (M := M') (by rw [hl]; exact hj), Me.proc_yes hj]
  simp only [h]
  rw [List.getElem_set]
structure Acc (M M' : Me) (tp : Nat) (wh : Int) : Prop where
  lp : M'.pr.length = M.pr.length
  ls : M'.sl.length = M.sl.length
  st : ∀ j : Nat, j < M.pr.length → (M'.proc j).st = if j = tp then wrap64 ((M.proc j).st + 1) else (M.proc j).st
  lk : ∀ j : Nat, (j : Int) ≠ wh → (looks M')[j]? = (looks M)[j]?
theorem acc_tick {M M1 : Me} {tp : Nat} {wh : Int} (htp : tp < M.pr.length) (lp : M1.pr.length = M.pr.length) (ls : M1.sl.length = M.sl.length)
    (hs : ∀ i : Nat, i < M.pr.length → 2 * (i : Int) ≠ wh → (M1.proc i).s = (M.proc i).s) (hp : ∀ i : Nat, i < M.pr.length → 2 * (i : Int) + 1 ≠ wh → (M1.proc i).pos = (M.proc i).pos)
    (hi : ∀ j : Nat, j < M.sl.length → 2 * (M.pr.length : Int) + j ≠ wh → (M1.slot j).i = (M.slot j).i) (hst : ∀ i : Nat, i < M.pr.length → (M1.proc i).st = (M.proc i).st) : Acc M (M1.tick tp) tp wh := by
  have hl : (M1.tick tp).pr.length = M.pr.length := by
    show (List.set _ _ _).length = _
    rw [List.length_set]; exact lp
  have hx : ∀ j : Nat, j < M.pr.length → (M1.tick tp).proc j = if tp = j then { M1.proc tp with st := wrap64 ((M1.proc tp).st + 1) } else M1.proc j := fun j hj => proc_set (M := M1) rfl (by rw [lp]; exact hj)
  refine ⟨hl, ls, ?_, ?_⟩
  · intro j hj
    rw [hx j hj]
    by_cases e : tp = j
    · subst e
      rw [if_pos rfl, if_pos rfl]
      show wrap64 ((M1.proc tp).st + 1) = _
      rw [hst tp htp]
    · rw [if_neg e, if_neg (fun h => e h.symm)]
      exact hst j hj
  · refine looks_ext hl ls ?_ ?_ hi
    · intro i hi2 hw
      rw [hx i hi2]
      by_cases e : tp = i
      · subst e
        rw [if_pos rfl]
        exact hs tp hi2 hw
      · rw [if_neg e]
        exact hs i hi2 hw
    · intro i hi2 hw
      rw [hx i hi2]
      by_cases e : tp = i
      · subst e
        rw [if_pos rfl]
        exact hp tp hi2 hw
      · rw [if_neg e]
        exact hp i hi2 hw
section
variable {M : Me} {tp tq : Nat}
theorem acc_read (htp : tp < M.pr.length) : Acc M (M.tick tp) tp (-1) := acc_tick htp rfl rfl (fun _ _ _ => rfl) (fun _ _ _ => rfl) (fun _ _ _ => rfl) (fun _ _ => rfl)
theorem acc_ann (htp : tp < M.pr.length) (x : P7) : Acc M ((M.ann tp x).tick tp) tp (2 * tp) := by
  have hx : ∀ j : Nat, j < M.pr.length → (M.ann tp x).proc j = if tp = j then { M.proc tp with s := x.s, k := x.k, m := x.m } else M.proc j := fun j hj => proc_set (M := M) rfl hj
  refine acc_tick htp List.length_set rfl ?_ ?_ (fun _ _ _ => rfl) ?_
  · intro i hi hw
    rw [hx i hi, if_neg (fun e => hw (by omega))]
  · intro i hi hw
    rw [hx i hi]
    split
    · rename_i e; subst e; rfl
    · rfl
  · intro i hi
    rw [hx i hi]
    split
    · rename_i e; subst e; rfl
    · rfl
theorem acc_pub (htp : tp < M.pr.length) (n : Int) : Acc M ((M.pub tp n).tick tp) tp (2 * tp + 1) := by
  have hx : ∀ j : Nat, j < M.pr.length → (M.pub tp n).proc j = if tp = j then { M.proc tp with pos := n } else M.proc j := fun j hj => proc_set (M := M) rfl hj
  refine acc_tick htp List.length_set rfl ?_ ?_ (fun _ _ _ => rfl) ?_
  · intro i hi hw
    rw [hx i hi]
    split
    · rename_i e; subst e; rfl
    · rfl
  · intro i hi hw
    rw [hx i hi, if_neg (fun e => hw (by omega))]
  · intro i hi
    rw [hx i hi]
    split
    · rename_i e; subst e; rfl
    · rfl
theorem own_is (htp : tp < M.pr.length) (htq : tq < M.sl.length) : swapIs M tp tq = true := by
  unfold swapIs
  rw [hasB_nat htp, hasB_nat htq]
  rfl
theorem acc_swap (htp : tp < M.pr.length) (htq : tq < M.sl.length) (old next : S7) : Acc M (swapM M tp tq old next) tp (2 * M.pr.length + tq) := by
  unfold swapM
  rw [if_pos (own_is htp htq), Int.toNat_natCast, Int.toNat_natCast]
  split
  · refine acc_tick htp rfl List.length_set (fun _ _ _ => rfl) (fun _ _ _ => rfl) ?_ (fun _ _ => rfl)
    intro j hj hw
    rw [Me.slot_put _ _ htq hj, if_neg (fun e => hw (by omega))]
  · exact acc_tick htp rfl rfl (fun _ _ _ => rfl) (fun _ _ _ => rfl) (fun _ _ _ => rfl) (fun _ _ => rfl)
theorem acc_swaps (htp : tp < M.pr.length) (old : Int) (x : N7) : Acc M (swapsM M tp old x) tp (-1) := by
  unfold swapsM
  rw [if_pos (hasB_nat htp), Int.toNat_natCast]
  split
  · exact acc_tick htp rfl rfl (fun _ _ _ => rfl) (fun _ _ _ => rfl) (fun _ _ _ => rfl) (fun _ _ => rfl)
  · exact acc_tick htp rfl rfl (fun _ _ _ => rfl) (fun _ _ _ => rfl) (fun _ _ _ => rfl) (fun _ _ => rfl)
end
/-- What a memory keeps besides: new blocks. -/
theorem MO.grow {w W W' : World} {mg : Nat} {M : Me} {K K' : Nat → Prop} (h : MO w W mg M K) (hb : Below W.heap.size W W') (hk : ∀ b, K' b → K b ∨ (W.heap.size ≤ b ∧ b < W'.heap.size)) : MO w W' mg M K' := by
  obtain ⟨⟨pg, sg, h0, h1, h2, h3⟩, k1, k2⟩ := h
  refine ⟨⟨pg, sg, h0.below hb, h1, h2, fun b hkb => ?_⟩, below_next k1 hb, k2⟩
  rcases hk b hkb with h | ⟨h, h'⟩
  · exact ⟨Nat.lt_of_lt_of_le (h3 b h).1 hb.size, (h3 b h).2⟩
  · exact ⟨h', fun e => by have := h0.foot b e; omega⟩
theorem mo_look {w W : World} {mg : Nat} {M : Me} {K : Nat → Prop} (h : MO w W mg M K) : Calls Try.prog 28 #[.pointer (some ⟨mg, 0, none⟩)] W fun e W' => ∃ v, e = .returned v ∧ Below W.heap.size W W' ∧ W'.ownsRow W.heap.size 3 1 v (looks M).length ((looks M).map (.int .i64)) := by
  obtain ⟨⟨pg, sg, h0, -, -, -⟩, -, -⟩ := h
  exact look_at h0
end Go.Proofs.Ythllfeogchbihac
