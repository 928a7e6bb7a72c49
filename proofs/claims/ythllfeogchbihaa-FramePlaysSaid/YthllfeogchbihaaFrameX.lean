/- FramePlays: the program's frame and the document's one side by side: one contract for each call. -/
import Derived.Test.YthllfeogchbihaaFrameU
import Derived.Test.YthllfeogchbihaaFrameV
namespace Go.Proofs.Ythllfeogchbihaa
open Go.RowKit
set_option linter.unusedSimpArgs false
set_option linter.unusedVariables false

/-- Both frames, the same but for where; blocks that are kept. -/
structure PO (w W : World) (fg rf c d : Nat) (F G : Fr) (K : Nat → Prop) : Prop where
  ex : ∃ base la sa ta tl, RfAt W base rf d la sa ta tl G ∧ FO w W fg c F (fun b => RF rf la sa ta b ∨ K b) ∧ ∀ b, K b → b < W.heap.size ∧ ¬ RF rf la sa ta b
  rw : w.heap.size ≤ rf
section
variable {w W : World} {fg rf c d : Nat} {F G : Fr} {K : Nat → Prop}
theorem PO.bw (h : PO w W fg rf c d F G K) : Below w.heap.size w W := by
  obtain ⟨base, la, sa, ta, tl, h1, h2, h3⟩ := h.ex
  exact h2.bw
theorem PO.below (h : PO w W fg rf c d F G K) {W' : World} (hb : Below W.heap.size W W') : PO w W' fg rf c d F G K := by
  obtain ⟨⟨base, la, sa, ta, tl, h1, h2, h3⟩, h4⟩ := h
  exact ⟨⟨base, la, sa, ta, tl, h1.below hb, h2.below hb, fun b hb2 => ⟨Nat.lt_of_lt_of_le (h3 b hb2).1 hb.size, (h3 b hb2).2⟩⟩, h4⟩
theorem PO.drewN (h : PO w W fg rf c d F G K) (k : Nat) : PO w (W.drewN k) fg rf c d F G K := h.below (below_drewN (Below.refl _ _) k)
theorem PO.drew (h : PO w W fg rf c d F G K) : PO w W.drew fg rf c d F G K := h.below (below_drew (Below.refl _ _))
theorem PO.less (h : PO w W fg rf c d F G K) {K' : Nat → Prop} (hk : ∀ b, K' b → K b) : PO w W fg rf c d F G K' := by
  obtain ⟨⟨base, la, sa, ta, tl, h1, h2, h3⟩, h4⟩ := h
  exact ⟨⟨base, la, sa, ta, tl, h1, h2.less (fun b e => e.imp id (hk b)), fun b hb => h3 b (hk b hb)⟩, h4⟩
theorem PO.alloc (h : PO w W fg rf c d F G K) (o : Obj) : PO w (W.alloc o) fg rf c d F G (fun b => K b ∨ b = W.heap.size) := by
  obtain ⟨⟨base, la, sa, ta, tl, h1, h2, h3⟩, h4⟩ := h
  refine ⟨⟨base, la, sa, ta, tl, h1.below ((Below.refl _ _).alloc (Nat.le_refl _) o), (h2.alloc o).less (fun b e => ?_), fun b hb => ?_⟩, h4⟩
  · rcases e with e | e | e
    · exact .inl (.inl e)
    · exact .inl (.inr e)
    · exact .inr e
  · rcases hb with hb | rfl
    · exact ⟨by have := (h3 b hb).1; simp; omega, (h3 b hb).2⟩
    · exact ⟨by simp, fun e => by have := h1.foot _ e; omega⟩
theorem PO.mono (h : PO w W fg rf c d F G K) {c' d' : Nat} (hc : c ≤ c') (hd : d ≤ d') : PO w W fg rf c' d' F G K := by
  obtain ⟨⟨base, la, sa, ta, tl, h1, h2, h3⟩, h4⟩ := h
  exact ⟨⟨base, la, sa, ta, tl, { h1 with tc := Nat.le_trans h1.tc hd }, h2.mono hc, h3⟩, h4⟩
/-- A call of the program's frame. -/
theorem PO.left {base : Nat} {la sa ta : Value} {tl : List (Int × Int)} (h1 : RfAt W base rf d la sa ta tl G) (h3 : ∀ b, K b → b < W.heap.size ∧ ¬ RF rf la sa ta b) (h4 : w.heap.size ≤ rf) {c' : Nat} {F' : Fr} {W' : World}
    (hf : FOk w W fg c' F' (fun b => RF rf la sa ta b ∨ K b) W') : PO w W' fg rf c' d F' G K ∧ Touch (fun b => ¬ K b) W W' :=
  ⟨⟨⟨base, la, sa, ta, tl, h1.touch hf.2 (fun b hb e => e (.inl hb)), hf.1, fun b hb => ⟨Nat.lt_of_lt_of_le (h3 b hb).1 hf.2.size, (h3 b hb).2⟩⟩, h4⟩, hf.2.mono (fun b _ e hk => e (.inr hk))⟩
/-- A call of the document's. -/
theorem PO.right {base : Nat} {la sa ta : Value} {tl : List (Int × Int)} (h1 : RfAt W base rf d la sa ta tl G) (h2 : FO w W fg c F (fun b => RF rf la sa ta b ∨ K b)) (h3 : ∀ b, K b → b < W.heap.size ∧ ¬ RF rf la sa ta b) (h4 : w.heap.size ≤ rf) {d' : Nat} {G' : Fr} {W' : World}
    (hs : RStep W base rf d' la sa ta G' W') : PO w W' fg rf c d' F G' K ∧ Touch (fun b => ¬ K b) W W' := by
  obtain ⟨la', sa', ta', tl', t, k1, k2⟩ := hs
  have hsz := t.size
  refine ⟨⟨⟨base, la', sa', ta', tl', k1, ?_, fun b hb => ⟨Nat.lt_of_lt_of_le (h3 b hb).1 hsz, fun e => ?_⟩⟩, h4⟩, t.mono (fun b _ e hk => (h3 b hk).2 e)⟩
  · obtain ⟨⟨base2, gm, nm, A, cap, j0, j1, j2, j3⟩, j4, j5⟩ := h2
    refine ⟨⟨base2, gm, nm, A, cap, j0.touch t (fun b hb e => (j3 b (.inl e)).2 hb), j1, j2, fun b e => ?_⟩, j4.trans (t.below j4.size (fun b e => Nat.le_trans h4 (h1.foot2 b e))), j5⟩
    rcases e with e | e
    · refine ⟨k1.foot b e, fun e2 => ?_⟩
      rcases k2 b e with e3 | e3
      · exact (j3 b (.inl e3)).2 e2
      · have := j0.foot b e2; omega
    · exact ⟨Nat.lt_of_lt_of_le (j3 b (.inr e)).1 hsz, (j3 b (.inr e)).2⟩
  · rcases k2 b e with e3 | e3
    · exact (h3 b hb).2 e3
    · have := (h3 b hb).1; omega
/-- What a call leaves. -/
def POk (w W : World) (fg rf c d : Nat) (F G : Fr) (K : Nat → Prop) (W' : World) : Prop := PO w W' fg rf c d F G K ∧ Touch (fun b => ¬ K b) W W'
theorem POk.blk {W' : World} (h : POk w W fg rf c d F G K W') {b : Nat} {vs : List Value} (hb : Blk W b vs) (hk : K b) : Blk W' b vs := hb.touch h.2 (fun e => e hk)
theorem PO.ok (h : PO w W fg rf c d F G K) {W' : World} (hb : Below W.heap.size W W') : POk w W fg rf c d F G K W' := ⟨h.below hb, Touch.of_below hb (Nat.le_refl _) _⟩

theorem po_size (h : PO w W fg rf c d F G K) : Calls Try.prog 15 #[.pointer (some ⟨fg, 0, none⟩)] W fun e W' => e = .returned (.int .i64 ((F.many : Int) + (F.stk.length : Int))) ∧ ∃ k, W' = W.drewN k := by
  obtain ⟨base, la, sa, ta, tl, h1, h2, h3⟩ := h.ex
  exact fo_size h2
theorem po_rsize (h : PO w W fg rf c d F G K) : Calls Try.prog 19 #[.pointer (some ⟨rf, 0, none⟩)] W fun e W' => e = .returned (.int .i64 ((G.many : Int) + (G.stk.length : Int))) ∧ ∃ k, W' = W.drewN k := by
  obtain ⟨base, la, sa, ta, tl, h1, h2, h3⟩ := h.ex
  exact rsize_at h1
theorem po_place (h : PO w W fg rf c d F G K) : Calls Try.prog 16 #[.pointer (some ⟨fg, 0, none⟩)] W fun e W' => e = .returned (.int .i64 F.place) ∧ W' = W := by
  obtain ⟨base, la, sa, ta, tl, h1, h2, h3⟩ := h.ex
  exact fo_place h2
theorem PO.place (h : PO w W fg rf c d F G K) : W.cell? ⟨rf, 2, none⟩ = some (.int .i64 G.place) ∧ W.frozen? ⟨rf, 2, none⟩ = false ∧ rf < W.heap.size := by
  obtain ⟨base, la, sa, ta, tl, h1, h2, h3⟩ := h.ex
  exact ⟨h1.blk.c 2 _ rfl, h1.blk.f 2, h1.blk.l⟩
theorem po_go (h : PO w W fg rf c d F G K) (p : Int) : Calls Try.prog 21 #[.pointer (some ⟨fg, 0, none⟩), .int .i64 p] W fun e W' => e = .returned (.tuple #[]) ∧ POk w W fg rf c d (goF F p) G K W' := by
  obtain ⟨⟨base, la, sa, ta, tl, h1, h2, h3⟩, h4⟩ := h
  refine (fo_go h2 p).mono ?_
  rintro e W' ⟨rfl, hf⟩
  exact ⟨rfl, PO.left h1 h3 h4 hf⟩
theorem PO.rgo (h : PO w W fg rf c d F G K) (p : Int) : POk w W fg rf c d F (goF G p) K (W.setCell ⟨rf, 2, none⟩ (.int .i64 p)) := by
  obtain ⟨⟨base, la, sa, ta, tl, h1, h2, h3⟩, h4⟩ := h
  have t1 : Touch (fun b => b = rf) W (W.setCell ⟨rf, 2, none⟩ (.int .i64 p)) := (Touch.refl (fun b => b = rf) W).setCell _ _ (fun _ => rfl)
  have hb1 := h1.b1
  refine PO.right h1 h2 h3 h4 ⟨la, sa, ta, tl, t1.mono (fun b _ e => .inl e), { h1 with blk := h1.blk.set (j := 2) (u := .int .i64 G.place) rfl _, rl := row_touch t1 h1.rl (fun b e e2 => ?_), rs := row_touch t1 h1.rs (fun b e e2 => ?_), rt := row_touch t1 h1.rt (fun b e e2 => ?_), bs := Nat.le_trans h1.bs t1.size }, fun b e => .inl e⟩
  · have e2 : b = rf := e2
    have := (h1.rl.lt b e).1
    omega
  · have e2 : b = rf := e2
    have := (h1.rs.lt b e).1
    omega
  · have e2 : b = rf := e2
    have := (h1.rt.lt b e).1
    omega
theorem po_begin (h : PO w W fg rf c d F G K) (l t : Int) (hl : I64 l) (ht : I64 t) (hc : c < 1000000) :
    Calls Try.prog 9 #[.pointer (some ⟨fg, 0, none⟩), .int .i64 l, .int .i64 t] W fun e W' => e = .returned (.tuple #[]) ∧ POk w W fg rf (c + 1) d (begF F l t) G K W' := by
  obtain ⟨⟨base, la, sa, ta, tl, h1, h2, h3⟩, h4⟩ := h
  refine (fo_begin h2 l t hl ht hc).mono ?_
  rintro e W' ⟨rfl, hf⟩
  exact ⟨rfl, PO.left h1 h3 h4 hf⟩
theorem po_rbegin (h : PO w W fg rf c d F G K) (l t : Int) (hl : I64 l) (ht : I64 t) (hd : d < 1000000) :
    Calls Try.prog 30 #[.pointer (some ⟨rf, 0, none⟩), .int .i64 l, .int .i64 t] W fun e W' => e = .returned (.tuple #[]) ∧ POk w W fg rf c (d + 1) F (begF G l t) K W' := by
  obtain ⟨⟨base, la, sa, ta, tl, h1, h2, h3⟩, h4⟩ := h
  refine (rbegin_at h1 l t hl ht hd).mono ?_
  rintro e W' ⟨rfl, hf⟩
  exact ⟨rfl, PO.right h1 h2 h3 h4 hf⟩
theorem po_again (h : PO w W fg rf c d F G K) (l : Int) (hl : I64 l) (hc : c < 1000000) :
    Calls Try.prog 10 #[.pointer (some ⟨fg, 0, none⟩), .int .i64 l] W fun e W' => e = .returned (.tuple #[.bool (decide (1 < F.turns l)), .bool (decide (0 < F.turns l))]) ∧ POk w W fg rf (c + 1) d (agaF F l) G K W' := by
  obtain ⟨⟨base, la, sa, ta, tl, h1, h2, h3⟩, h4⟩ := h
  refine (fo_again h2 l hl hc).mono ?_
  rintro e W' ⟨rfl, hf⟩
  exact ⟨rfl, PO.left h1 h3 h4 hf⟩
theorem po_ragain (h : PO w W fg rf c d F G K) (l : Int) (hl : I64 l) (hd : d < 1000000) :
    Calls Try.prog 31 #[.pointer (some ⟨rf, 0, none⟩), .int .i64 l] W fun e W' => e = .returned (.tuple #[.bool (decide (1 < G.turns l)), .bool (decide (0 < G.turns l))]) ∧ POk w W fg rf c (d + 1) F (agaF G l) K W' := by
  obtain ⟨⟨base, la, sa, ta, tl, h1, h2, h3⟩, h4⟩ := h
  refine (ragain_at h1 l hl hd).mono ?_
  rintro e W' ⟨rfl, hf⟩
  exact ⟨rfl, PO.right h1 h2 h3 h4 hf⟩
theorem po_get (h : PO w W fg rf c d F G K) (i : Int) : Calls Try.prog 14 #[.pointer (some ⟨fg, 0, none⟩), .int .i64 i] W fun e W' => e = .returned (.tuple #[vagg (getV F i), .bool (getB F i)]) ∧ Below W.heap.size W W' := by
  obtain ⟨base, la, sa, ta, tl, h1, h2, h3⟩ := h.ex
  exact fo_get h2 i
theorem po_rget (h : PO w W fg rf c d F G K) (i : Int) : Calls Try.prog 26 #[.pointer (some ⟨rf, 0, none⟩), .int .i64 i] W fun e W' => e = .returned (.tuple #[vagg (getV G i), .bool (getB G i)]) ∧ Below W.heap.size W W' := by
  obtain ⟨base, la, sa, ta, tl, h1, h2, h3⟩ := h.ex
  exact rget_at h1 i
theorem po_top (h : PO w W fg rf c d F G K) : Calls Try.prog 13 #[.pointer (some ⟨fg, 0, none⟩)] W fun e W' => e = .returned (.tuple #[vagg (topV F), .bool (topB F)]) ∧ Below W.heap.size W W' := by
  obtain ⟨base, la, sa, ta, tl, h1, h2, h3⟩ := h.ex
  exact fo_top h2
theorem po_rtop (h : PO w W fg rf c d F G K) : Calls Try.prog 20 #[.pointer (some ⟨rf, 0, none⟩)] W fun e W' => e = .returned (.tuple #[vagg (topV G), .bool (topB G)]) ∧ Below W.heap.size W W' := by
  obtain ⟨base, la, sa, ta, tl, h1, h2, h3⟩ := h.ex
  exact rtop_at h1
theorem po_set (h : PO w W fg rf c d F G K) (i : Int) (v : V) (hv : VOk v) : Calls Try.prog 22 #[.pointer (some ⟨fg, 0, none⟩), .int .i64 i, vagg v] W fun e W' => e = .returned (.bool (setB F i v)) ∧ POk w W fg rf c d (setF F i v) G K W' := by
  obtain ⟨⟨base, la, sa, ta, tl, h1, h2, h3⟩, h4⟩ := h
  refine (fo_set h2 i v hv).mono ?_
  rintro e W' ⟨rfl, hf⟩
  exact ⟨rfl, PO.left h1 h3 h4 hf⟩
theorem po_rset (h : PO w W fg rf c d F G K) (i : Int) (v : V) (hv : VOk v) : Calls Try.prog 27 #[.pointer (some ⟨rf, 0, none⟩), .int .i64 i, vagg v] W fun e W' => e = .returned (.bool (setB G i v)) ∧ POk w W fg rf c d F (setF G i v) K W' := by
  obtain ⟨⟨base, la, sa, ta, tl, h1, h2, h3⟩, h4⟩ := h
  refine (rset_at h1 i v hv).mono ?_
  rintro e W' ⟨rfl, hf⟩
  exact ⟨rfl, PO.right h1 h2 h3 h4 hf⟩
theorem po_push (h : PO w W fg rf c d F G K) (v : V) (hv : VOk v) : Calls Try.prog 11 #[.pointer (some ⟨fg, 0, none⟩), vagg v] W fun e W' => e = .returned (.bool (pushB F v)) ∧ POk w W fg rf c d (pushF F v) G K W' := by
  obtain ⟨⟨base, la, sa, ta, tl, h1, h2, h3⟩, h4⟩ := h
  refine (fo_push h2 v hv).mono ?_
  rintro e W' ⟨rfl, hf⟩
  exact ⟨rfl, PO.left h1 h3 h4 hf⟩
theorem po_rpush (h : PO w W fg rf c d F G K) (v : V) (hv : VOk v) : Calls Try.prog 28 #[.pointer (some ⟨rf, 0, none⟩), vagg v] W fun e W' => e = .returned (.bool (pushB G v)) ∧ POk w W fg rf c d F (pushF G v) K W' := by
  obtain ⟨⟨base, la, sa, ta, tl, h1, h2, h3⟩, h4⟩ := h
  cases hb : pushB G v with
  | true =>
    have e4 : pushF G v = { G with stk := G.stk ++ [v] } := by unfold pushF; rw [hb, if_pos rfl]
    rw [e4]
    refine (rpush_yes h1 v hv hb).mono ?_
    rintro e W' ⟨rfl, hf⟩
    exact ⟨rfl, PO.right h1 h2 h3 h4 hf⟩
  | false =>
    have e4 : pushF G v = G := by unfold pushF; rw [hb]; rfl
    rw [e4]
    refine (rpush_no h1 v hv hb).mono ?_
    rintro e W' ⟨rfl, hf⟩
    exact ⟨rfl, PO.right h1 h2 h3 h4 (h1.same hf)⟩
theorem po_pop (h : PO w W fg rf c d F G K) (k : Int) (hk : 0 ≤ k ∧ k ≤ 255) : Calls Try.prog 12 #[.pointer (some ⟨fg, 0, none⟩), .int .u8 k] W fun e W' => e = .returned (.tuple #[vagg (popV F k), .bool (popB F k)]) ∧ POk w W fg rf c d (popF F k) G K W' := by
  obtain ⟨⟨base, la, sa, ta, tl, h1, h2, h3⟩, h4⟩ := h
  refine (fo_pop h2 k hk).mono ?_
  rintro e W' ⟨rfl, hf⟩
  exact ⟨rfl, PO.left h1 h3 h4 hf⟩
theorem po_rpop (h : PO w W fg rf c d F G K) (k : Int) (hk : 0 ≤ k ∧ k ≤ 255) : Calls Try.prog 29 #[.pointer (some ⟨rf, 0, none⟩), .int .u8 k] W fun e W' => e = .returned (.tuple #[vagg (popV G k), .bool (popB G k)]) ∧ POk w W fg rf c d F (popF G k) K W' := by
  obtain ⟨⟨base, la, sa, ta, tl, h1, h2, h3⟩, h4⟩ := h
  cases hb : popB G k with
  | false =>
    have e4 : popF G k = G := by unfold popF; rw [hb]; rfl
    have e5 : popV G k = zv := by unfold popV; rw [hb]; rfl
    rw [e4, e5]
    refine (rpop_no h1 k hk hb).mono ?_
    rintro e W' ⟨rfl, hf⟩
    exact ⟨rfl, PO.right h1 h2 h3 h4 (h1.same hf)⟩
  | true =>
    rcases List.eq_nil_or_concat G.stk with e | ⟨l, v, e⟩
    · have e1 : topB G = false := by unfold topB; rw [e]; rfl
      unfold popB at hb
      rw [e1] at hb
      cases hb
    · rw [List.concat_eq_append] at e
      have e1 : topB G = true := by unfold topB; rw [e]; simp
      have e2 : topV G = v := by unfold topV; rw [e]; simp
      have e4 : popF G k = { G with stk := l } := by unfold popF; rw [hb, if_pos rfl, e, List.dropLast_concat]
      have e5 : popV G k = v := by unfold popV; rw [hb, if_pos rfl, e2]
      unfold popB at hb
      rw [e1, e2, Bool.true_and] at hb
      rw [e4, e5]
      refine (rpop_yes h1 k hk e (of_decide_eq_true hb)).mono ?_
      rintro e W' ⟨rfl, hf⟩
      exact ⟨rfl, PO.right h1 h2 h3 h4 hf⟩
end
end Go.Proofs.Ythllfeogchbihaa
