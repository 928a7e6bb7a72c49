/- HeapApart: the law's own arrays in memory, beside a heap. -/
import Derived.Test.YthllfeogchbihabHeapI
namespace Go.Proofs.Ythllfeogchbihab
open Go.RowKit Go.Shelf
set_option linter.unusedSimpArgs false
set_option linter.unusedVariables false

/-- How long array j is. -/
def lenAt (arrs : List (List Int)) (j : Nat) : Nat := (arrs[j]?.getD []).length
theorem lenAt_of {arrs : List (List Int)} {j : Nat} (h : j < arrs.length) : lenAt arrs j = arrs[j].length := by
  unfold lenAt; rw [List.getElem?_eq_getElem h]; rfl
/-- The row of the arrays. -/
def wrow (gs : Nat → Nat) (arrs : List (List Int)) : List Value := (List.range arrs.length).map fun j => .slice (some ⟨gs j, 0, none⟩) (lenAt arrs j) (lenAt arrs j)
theorem wrow_length (gs : Nat → Nat) (arrs : List (List Int)) : (wrow gs arrs).length = arrs.length := by simp [wrow]
theorem wrow_get (gs : Nat → Nat) {arrs : List (List Int)} {j : Nat} (h : j < arrs.length) : (wrow gs arrs)[j]? = some (.slice (some ⟨gs j, 0, none⟩) arrs[j].length arrs[j].length) := by
  unfold wrow
  simp only [List.getElem?_map, List.getElem?_range h, Option.map_some, lenAt_of h]
theorem wrow_push (gs : Nat → Nat) (arrs : List (List Int)) (x : List Int) (g : Nat) : wrow (fun j => if j = arrs.length then g else gs j) (arrs ++ [x]) = wrow gs arrs ++ [.slice (some ⟨g, 0, none⟩) x.length x.length] := by
  apply List.ext_getElem?
  intro j
  rcases Nat.lt_trichotomy j arrs.length with hj | hj | hj
  · rw [wrow_get _ (by simp; omega), List.getElem?_append_left (by rw [wrow_length]; exact hj), wrow_get _ hj, List.getElem_append_left hj, if_neg (by omega)]
  · subst hj
    rw [wrow_get _ (by simp), List.getElem?_append_right (by rw [wrow_length]; omega), wrow_length, Nat.sub_self, List.getElem_append_right (by omega), if_pos rfl]
    simp
  · rw [List.getElem?_eq_none (by rw [wrow_length]; simp; omega), List.getElem?_eq_none (by simp [wrow_length]; omega)]
theorem wrow_set (gs : Nat → Nat) {arrs : List (List Int)} {k : Nat} (h : k < arrs.length) (i : Nat) (v : Int) : wrow gs (arrs.set k (arrs[k].set i v)) = wrow gs arrs := by
  apply List.ext_getElem?
  intro j
  by_cases hj : j < arrs.length
  · rw [wrow_get _ (by simpa using hj), wrow_get _ hj, List.getElem_set]
    split
    · rename_i e; subst e; rw [List.length_set]
    · rfl
  · rw [List.getElem?_eq_none (by rw [wrow_length]; simpa using hj), List.getElem?_eq_none (by rw [wrow_length]; omega)]

/-- The arrays in memory, each in a block of its own. -/
structure WantAt (W : World) (base : Nat) (v : Value) (gs : Nat → Nat) (arrs : List (List Int)) : Prop where
  row : W.ownsRow base 25 1 v arrs.length (wrow gs arrs)
  bk : ∀ k (h : k < arrs.length), Blk W (gs k) (arrs[k].map (Value.int .i64))
  inj : ∀ i j, i < arrs.length → j < arrs.length → gs i = gs j → i = j
  nr : ∀ k, k < arrs.length → v.ownBlock ≠ some (gs k)
  lo : ∀ k, k < arrs.length → base ≤ gs k
/-- Their blocks. -/
def FW (v : Value) (gs : Nat → Nat) (q : Nat) : Nat → Prop := fun b => v.ownBlock = some b ∨ ∃ k, k < q ∧ b = gs k
section
variable {W : World} {base : Nat} {v : Value} {gs : Nat → Nat} {arrs : List (List Int)}
theorem WantAt.foot (h : WantAt W base v gs arrs) : ∀ b, FW v gs arrs.length b → base ≤ b ∧ b < W.heap.size := by
  rintro b (e | ⟨k, hk, rfl⟩)
  · exact h.row.lt b e
  · exact ⟨h.lo k hk, (h.bk k hk).l⟩
theorem WantAt.touch (h : WantAt W base v gs arrs) {S : Nat → Prop} {W' : World} (t : Touch S W W') (hs : ∀ b, FW v gs arrs.length b → ¬ S b) : WantAt W' base v gs arrs :=
  { h with row := t.row h.row (fun g o c e => hs g (.inl (by rw [e]; rfl))), bk := fun k hk => (h.bk k hk).touch t (hs _ (.inr ⟨k, hk, rfl⟩)) }
theorem WantAt.nil (W : World) (base : Nat) (gs : Nat → Nat) : WantAt W base (.slice none 0 0) gs [] :=
  ⟨World.ownsRow_nil _ _ _ _, fun k h => absurd h (by simp), fun i j h => absurd h (by simp), fun k h => absurd h (by simp), fun k h => absurd h (by simp)⟩
theorem WantAt.form (h : WantAt W base v gs arrs) : ∃ A cap, v = .slice A arrs.length cap := by
  rcases h.row.2 with ⟨e, e2⟩ | ⟨g, cap, cur, e, -⟩
  · exact ⟨none, 0, by rw [e, e2]⟩
  · exact ⟨_, _, e⟩
theorem WantAt.at (h : WantAt W base v gs arrs) {k : Nat} (hk : k < arrs.length) :
    ∃ g cap, v = .slice (some ⟨g, 0, none⟩) arrs.length cap ∧ W.cell? ⟨g, k, none⟩ = some (.slice (some ⟨gs k, 0, none⟩) arrs[k].length arrs[k].length) ∧ g < W.heap.size ∧ g ≠ gs k := by
  have hr := h.row
  have hnr := h.nr k hk
  rcases hr.2 with ⟨e, e2⟩ | ⟨g, cap, cur, e, hb, hc, -⟩
  · omega
  · subst e
    refine ⟨g, cap, rfl, ?_, (Array.getElem?_eq_some_iff.1 hc).1, fun e => hnr (by rw [← e]; rfl)⟩
    rw [hr.cellAt k (by omega), wrow_get gs hk]
theorem WantAt.cell (h : WantAt W base v gs arrs) {k j : Nat} (hk : k < arrs.length) (hj : j < arrs[k].length) : W.cell? ⟨gs k, j, none⟩ = some (.int .i64 arrs[k][j]) :=
  (h.bk k hk).c j _ (by rw [List.getElem?_map, List.getElem?_eq_getElem hj]; rfl)
theorem WantAt.store (h : WantAt W base v gs arrs) {k j : Nat} (hk : k < arrs.length) (hj : j < arrs[k].length) (x : Int) : WantAt (W.setCell ⟨gs k, j, none⟩ (.int .i64 x)) base v gs (arrs.set k (arrs[k].set j x)) := by
  have hl : (arrs.set k (arrs[k].set j x)).length = arrs.length := List.length_set
  refine ⟨?_, fun i hi => ?_, by rw [hl]; exact h.inj, by rw [hl]; exact h.nr, by rw [hl]; exact h.lo⟩
  · rw [hl, wrow_set gs hk j x]
    exact ((Touch.refl (fun b => b = gs k) _).setCell _ _ (fun _ => rfl)).row h.row (fun g o c e e2 => h.nr k hk (by rw [e, ← (show g = gs k from e2)]; rfl))
  · rw [hl] at hi
    by_cases e : k = i
    · subst e
      rw [List.getElem_set_self, List.map_set]
      exact (h.bk k hk).set (j := j) (u := .int .i64 arrs[k][j]) (by rw [List.getElem?_map, List.getElem?_eq_getElem hj]; rfl) _
    · rw [List.getElem_set_ne e]
      exact (h.bk i hi).other (fun e2 => e (h.inj k i hk hi e2)) j _
end

/-- A heap and the law's own arrays, apart. -/
structure AP (w W : World) (gh gw room : Nat) (v : Value) (hs ws : List (List Int)) : Prop where
  ex : ∃ base A cap gs, HeapAt W gh gw base room hs A cap ∧ WantAt W w.heap.size v gs ws ∧ ∀ b, FW v gs ws.length b → ¬ FH gh gw A b
  bw : Below w.heap.size w W
  g1 : w.heap.size ≤ gh
  g2 : w.heap.size ≤ gw
section
variable {w W : World} {gh gw room : Nat} {v : Value} {hs ws : List (List Int)}
theorem AP.below (h : AP w W gh gw room v hs ws) {W' : World} (hb : Below W.heap.size W W') : AP w W' gh gw room v hs ws := by
  obtain ⟨⟨base, A, cap, gs, h0, hw, hd⟩, h1, h2, h3⟩ := h
  exact ⟨⟨base, A, cap, gs, h0.below hb, hw.touch (Touch.of_below hb (Nat.le_refl _) (fun _ => False)) (fun _ _ e => e), hd⟩, below_next h1 hb, h2, h3⟩
theorem ap_make (h : AP w W gh gw room v hs ws) (n : Int) (hl : hs.length < 5000) :
    Calls Try.prog 7 #[.pointer (some ⟨gh, 0, none⟩), .int .i64 n] W fun e W' => e = .returned (.tuple #[.int .i64 (mkRef room hs n), .int .i64 (mkErr room hs n)]) ∧ AP w W' gh gw room v (mkArrs room hs n) ws := by
  obtain ⟨⟨base, A, cap, gs, h0, hw, hd⟩, h1, h2, h3⟩ := h
  refine (make_at h0 n hl).mono ?_
  rintro e W' ⟨A', cap', rfl, ht, hA, hh⟩
  refine ⟨rfl, ⟨_, _, _, gs, hh, hw.touch ht (fun b hb hm => hd b hb ?_), fun b hb hm => ?_⟩, h1.trans (ht.below h1.size ?_), h2, h3⟩
  · rcases hm with rfl | ⟨a, e, rfl⟩
    · exact .inl rfl
    · exact .inr (.inr ⟨a, e, rfl⟩)
  · rcases hm with rfl | rfl | ⟨a, e, rfl⟩
    · exact hd _ hb (.inl rfl)
    · exact hd _ hb (.inr (.inl rfl))
    · rcases hA with rfl | hA
      · exact hd _ hb (.inr (.inr ⟨a, e, rfl⟩))
      · have := hA a e
        have := (hw.foot _ hb).2
        omega
  · rintro k (rfl | ⟨a, e, rfl⟩)
    · exact h2
    · have := h0.rowBase a e; have := h0.b1; omega
theorem ap_put (h : AP w W gh gw room v hs ws) {k j : Nat} (x : Int) (hk : k < hs.length) (hj : j < hs[k].length) :
    Calls Try.prog 10 #[.pointer (some ⟨gh, 0, none⟩), .int .i64 ((k : Int) + 1), .int .i64 j, .int .i64 x] W fun e W' => e = .returned (.bool true) ∧ AP w W' gh gw room v (hs.set k (hs[k].set j x)) ws := by
  obtain ⟨⟨base, A, cap, gs, h0, hw, hd⟩, h1, h2, h3⟩ := h
  refine (put_yes h0 x hk hj).mono ?_
  rintro e W' ⟨rfl, ht, hh⟩
  refine ⟨rfl, ⟨_, _, _, gs, hh, hw.touch ht (fun b hb hm => hd b hb (.inr (.inl hm))), hd⟩, h1.trans (ht.below h1.size ?_), h2, h3⟩
  rintro k rfl
  exact h3
theorem ap_at_yes (h : AP w W gh gw room v hs ws) {k j : Nat} (hk : k < hs.length) (hj : j < hs[k].length) :
    Calls Try.prog 8 #[.pointer (some ⟨gh, 0, none⟩), .int .i64 ((k : Int) + 1), .int .i64 j] W fun e W' => e = .returned (.tuple #[.int .i64 hs[k][j], .bool true]) ∧ Below W.heap.size W W' := by
  obtain ⟨base, A, cap, gs, h0, -⟩ := h.ex
  exact at_yes h0 hk hj
theorem ap_at_end (h : AP w W gh gw room v hs ws) {k : Nat} (hk : k < hs.length) :
    Calls Try.prog 8 #[.pointer (some ⟨gh, 0, none⟩), .int .i64 ((k : Int) + 1), .int .i64 hs[k].length] W fun e W' => e = .returned (.tuple #[.int .i64 0, .bool false]) ∧ Below W.heap.size W W' := by
  obtain ⟨base, A, cap, gs, h0, -⟩ := h.ex
  refine at_no h0 ?_
  unfold plA
  rw [if_neg]
  rintro ⟨-, -, h3⟩
  have e : ((k : Int) + 1 - 1).toNat = k := by omega
  rw [e, List.getElem?_eq_getElem hk, Option.getD_some] at h3
  omega
theorem ap_len (h : AP w W gh gw room v hs ws) {k : Nat} (hk : k < hs.length) :
    Calls Try.prog 9 #[.pointer (some ⟨gh, 0, none⟩), .int .i64 ((k : Int) + 1)] W fun e W' => e = .returned (.tuple #[.int .i64 hs[k].length, .bool true]) ∧ Below W.heap.size W W' := by
  obtain ⟨base, A, cap, gs, h0, -⟩ := h.ex
  refine (len_at h0 _).mono ?_
  rintro e W' ⟨rfl, hb⟩
  refine ⟨?_, hb⟩
  have e : ((k : Int) + 1 - 1).toNat = k := by omega
  rw [if_pos (by omega), e, List.getElem?_eq_getElem hk, Option.getD_some, decide_eq_true (by omega)]
theorem ap_sizes (h : AP w W gh gw room v hs ws) : hs.flatten.length ≤ room ∧ room ≤ 1024 := by
  obtain ⟨base, A, cap, gs, h0, -⟩ := h.ex
  exact ⟨h0.sm, h0.rm⟩
/-- A word is stored in the law's own arrays. -/
theorem ap_store {base : Nat} {A : Option Addr} {cap : Nat} {gs : Nat → Nat} (h0 : HeapAt W gh gw base room hs A cap) (hw : WantAt W w.heap.size v gs ws) (hd : ∀ b, FW v gs ws.length b → ¬ FH gh gw A b)
    (h1 : Below w.heap.size w W) (h2 : w.heap.size ≤ gh) (h3 : w.heap.size ≤ gw) {k j : Nat} (hk : k < ws.length) (hj : j < ws[k].length) (x : Int) :
    AP w (W.setCell ⟨gs k, j, none⟩ (.int .i64 x)) gh gw room v hs (ws.set k (ws[k].set j x)) := by
  refine ⟨⟨base, A, cap, gs, h0.touch ((Touch.refl (fun b => b = gs k) _).setCell _ _ (fun _ => rfl)) (fun b hb e => hd b (.inr ⟨k, hk, e⟩) hb), hw.store hk hj x, by rw [List.length_set]; exact hd⟩, h1.setCell (hw.lo k hk) _, h2, h3⟩
/-- An array is made, and laid behind the law's own ones. -/
theorem ap_append {base : Nat} {A : Option Addr} {cap : Nat} {gs : Nat → Nat} (h0 : HeapAt W gh gw base room hs A cap) (hw : WantAt W w.heap.size v gs ws) (hd : ∀ b, FW v gs ws.length b → ¬ FH gh gw A b)
    (h1 : Below w.heap.size w W) (h2 : w.heap.size ≤ gh) (h3 : w.heap.size ≤ gw) {W1 W2 W3 : World} {n : Nat} {cs : List Value} (hown : W1.ownsRow W.heap.size 2 1 (.slice (some ⟨W.heap.size, 0, none⟩) n n) n cs) (hcs : ∀ j, j < n → cs[j]? = some (.int .i64 0))
    (hg1 : W.grownBy W1 none) (hb2 : Below W1.heap.size W1 W2) {g' cap' : Nat} (hrow : W3.ownsRow w.heap.size 25 1 (.slice (some ⟨g', 0, none⟩) (ws.length + 1) cap') (ws.length + 1) (wrow gs ws ++ [.slice (some ⟨W.heap.size, 0, none⟩) n n]))
    (hg3 : W2.grownBy W3 v.ownBlock) (hor : v.ownBlock = some g' ∨ W2.heap.size ≤ g') : AP w W3 gh gw room (.slice (some ⟨g', 0, none⟩) (ws.length + 1) cap') hs (ws ++ [List.replicate n 0]) := by
  have hlt : W.heap.size < W1.heap.size := (hown.lt _ rfl).2
  have t1 : Touch (fun b => v.ownBlock = some b) W W1 := (Touch.refl _ _).grown hg1 (fun k e => by cases e)
  have t2 : Touch (fun b => v.ownBlock = some b) W W2 := t1.trans' (Touch.of_below hb2 (Nat.le_refl _) _) (fun _ _ e => e)
  have t3 : Touch (fun b => v.ownBlock = some b) W W3 := t2.grown hg3 (fun k e _ => e)
  have t13 : Touch (fun b => v.ownBlock = some b) W1 W3 := (Touch.of_below hb2 (Nat.le_refl _) _).grown hg3 (fun k e _ => e)
  have hs1 := hg1.size
  have hs2 := hb2.size
  have hnb : v.ownBlock ≠ some W.heap.size := fun e => by have := (hw.row.lt _ e).2; omega
  have hbk : Blk W3 W.heap.size ((List.replicate n (0 : Int)).map (Value.int .i64)) := by
    have hb1 : Blk W1 W.heap.size ((List.replicate n (0 : Int)).map (Value.int .i64)) := by
      refine ⟨fun j u hj => ?_, fun o => hown.frozenAt _, hlt⟩
      rw [List.getElem?_map, List.getElem?_replicate] at hj
      split at hj
      · rename_i hjn
        rw [hown.cellAt _ (by omega), ← hj]
        exact hcs j hjn
      · cases hj
    exact hb1.touch t13 hnb
  have hnbk : ∀ k, k < ws.length → gs k ≠ W.heap.size := fun k hk e => by have := (hw.bk k hk).l; omega
  have hlo := h1.size
  refine ⟨⟨base, A, cap, fun j => if j = ws.length then W.heap.size else gs j, h0.touch t3 (fun b hb e => hd b (.inl e) hb), ⟨?_, ?_, ?_, ?_, ?_⟩, ?_⟩, h1.trans (t3.below h1.size ?_), h2, h3⟩
  · rw [wrow_push]
    simpa using hrow
  · intro k hk
    rw [List.length_append] at hk
    simp at hk
    rcases Nat.lt_or_ge k ws.length with h | h
    · rw [if_neg (by omega), List.getElem_append_left h]
      exact (hw.bk k h).touch t3 (fun e => hw.nr k h e)
    · obtain rfl : k = ws.length := by omega
      rw [if_pos rfl, List.getElem_append_right (by omega)]
      simpa using hbk
  · intro i j hi hj e
    simp at hi hj
    by_cases e1 : i = ws.length <;> by_cases e2 : j = ws.length
    · omega
    · rw [if_pos e1, if_neg e2] at e
      exact absurd e.symm (hnbk j (by omega))
    · rw [if_neg e1, if_pos e2] at e
      exact absurd e (hnbk i (by omega))
    · rw [if_neg e1, if_neg e2] at e
      exact hw.inj i j (by omega) (by omega) e
  · intro k hk e
    simp at hk
    have e : g' = if k = ws.length then W.heap.size else gs k := by
      have e' : some g' = some (if k = ws.length then W.heap.size else gs k) := e
      injection e'
    by_cases e1 : k = ws.length
    · rw [if_pos e1] at e
      rcases hor with ho | ho
      · exact hnb (by rw [ho, e])
      · omega
    · rw [if_neg e1] at e
      have hl := (hw.bk k (by omega)).l
      rcases hor with ho | ho
      · exact hw.nr k (by omega) (by rw [ho, e])
      · omega
  · intro k hk
    simp at hk
    by_cases e1 : k = ws.length
    · simp only [if_pos e1]; exact hlo
    · simp only [if_neg e1]; exact hw.lo k (by omega)
  · intro b hb hm
    have hf := h0.foot b hm
    rcases hb with e | ⟨k, hk, rfl⟩
    · have e' : some g' = some b := e
      injection e' with e'
      subst e'
      rcases hor with ho | ho
      · exact hd _ (.inl ho) hm
      · omega
    · simp at hk
      dsimp only at hf hm
      by_cases e1 : k = ws.length
      · rw [if_pos e1] at hf; omega
      · rw [if_neg e1] at hm
        exact hd _ (.inr ⟨k, by omega, rfl⟩) hm
  · intro b e
    exact (hw.row.lt _ e).1
end

end Go.Proofs.Ythllfeogchbihab
