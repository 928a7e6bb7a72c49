/- FrameLast, FramePlays: slices handed in, read as lists; the law's own stack beside a frame. -/
import Derived.Test.YthllfeogchbihaaFrameF
import Derived.Test.YthllfeogchbihaaOpen
import Derived.Test.YthllfeogchbihaaFrameN
namespace Go.Proofs.Ythllfeogchbihaa
open Go.RowKit
set_option linter.unusedSimpArgs false
set_option linter.unusedVariables false

theorem list_of {α : Type} (n : Nat) (P : Nat → α → Prop) (h : ∀ i, i < n → ∃ x, P i x) : ∃ l : List α, l.length = n ∧ ∀ i (hi : i < l.length), P i l[i] := by
  induction n with
  | zero => exact ⟨[], rfl, fun i hi => absurd hi (by simp)⟩
  | succ n ih =>
    obtain ⟨l, hl, hp⟩ := ih (fun i hi => h i (by omega))
    obtain ⟨x, hx⟩ := h n (by omega)
    refine ⟨l ++ [x], by simp [hl], fun i hi => ?_⟩
    simp at hi
    rcases Nat.lt_or_ge i l.length with h1 | h1
    · rw [List.getElem_append_left h1]; exact hp i h1
    · obtain rfl : i = l.length := by omega
      simp only [List.getElem_concat_length]
      rw [hl]; exact hx
theorem bytesAt_of {w : World} {A : Option Addr} {m cap n : Nat} (h : deepOk Try.prog w (n + 4) 34 [.slice A m cap]) : ∃ ks, BytesAt w A m ks := by
  obtain ⟨A', m', cap', e, -, -, h3⟩ := deepOk_slice Try.underlying34 h
  injection e with e
  injection e with e1 e2 e3
  subst e1 e2 e3
  refine list_of m (fun i x => ∃ g o, A = some ⟨g, o, none⟩ ∧ g < w.heap.size ∧ (0 ≤ x ∧ x ≤ 255) ∧ w.cell? ⟨g, o + i, none⟩ = some (.int .u8 x)) (fun i hi => ?_)
  obtain ⟨g, o, es, e1, hg, hl, hc, hd⟩ := h3 (by rw [cells5]; decide) i hi
  rw [cells5] at hl hc
  obtain ⟨z, rfl, wz⟩ := deepOk_int Try.underlying5 hd
  exact ⟨z, g, o, e1, hg, wf_u8 wz, by simpa using hc 0 (by omega)⟩
theorem vsAt_of {w : World} {A : Option Addr} {m cap n : Nat} (h : deepOk Try.prog w (n + 4) 35 [.slice A m cap]) : ∃ vs, VsAt w A m vs := by
  obtain ⟨A', m', cap', e, -, -, h3⟩ := deepOk_slice Try.underlying35 h
  injection e with e
  injection e with e1 e2 e3
  subst e1 e2 e3
  refine list_of m (fun i x => ∃ g o, A = some ⟨g, o, none⟩ ∧ g < w.heap.size ∧ VOk x ∧ w.cell? ⟨g, o + i * 3, none⟩ = some (.int .u8 x.1) ∧ w.cell? ⟨g, o + i * 3 + 1, none⟩ = some (.int .i64 x.2.1) ∧ w.cell? ⟨g, o + i * 3 + 2, none⟩ = some (.int .i64 x.2.2)) (fun i hi => ?_)
  obtain ⟨g, o, es, e1, hg, hl, hc, hd⟩ := h3 (by rw [cells37]; decide) i hi
  rw [cells37] at hl hc
  obtain ⟨v, rfl, hv⟩ := val_in hl hd
  exact ⟨v, g, o, e1, hg, hv, hc 0 (by omega), by rw [Nat.add_assoc]; exact hc 1 (by omega), by rw [Nat.add_assoc]; exact hc 2 (by omega)⟩

/-- The law's own stack beside a frame that has the same. -/
structure LastAt (W wr : World) (fg : Nat) (v : Value) (ws : List V) (L : List V) (nl : Nat) (F : Fr) : Prop where
  fo : FO W wr fg 0 F (fun b => v.ownBlock = some b)
  st : F.stk = ws
  mn : F.many = nl
  lc : F.locs = L
  pl : F.place = 0
  row : wr.ownsRow W.heap.size 37 3 v ws.length (vcs ws)
  ok : ∀ u ∈ ws, kindB u.1 = true ∧ VOk u
section
variable {W wr : World} {fg : Nat} {v : Value} {ws L : List V} {nl : Nat} {F : Fr}
theorem LastAt.form (h : LastAt W wr fg v ws L nl F) : ∃ A cap, v = .slice A ws.length cap := by
  rcases h.row.2 with ⟨e, e2⟩ | ⟨g, cap, cur, e, -⟩
  · exact ⟨none, 0, by rw [e, e2]⟩
  · exact ⟨_, _, e⟩
theorem LastAt.at (h : LastAt W wr fg v ws L nl F) {i : Nat} (hi : i < ws.length) : ∃ g cap, v = .slice (some ⟨g, 0, none⟩) ws.length cap ∧ ws.length ≤ cap ∧ g < wr.heap.size ∧
    wr.cell? ⟨g, i * 3, none⟩ = some (.int .u8 ws[i].1) ∧ wr.cell? ⟨g, i * 3 + 1, none⟩ = some (.int .i64 ws[i].2.1) ∧ wr.cell? ⟨g, i * 3 + 2, none⟩ = some (.int .i64 ws[i].2.2) := by
  have hr := h.row
  rcases hr.2 with ⟨e, e2⟩ | ⟨g, c, cur, e, hb, hc, hcap, -⟩
  · omega
  · subst e
    obtain ⟨a1, a2, a3⟩ := vcs_get ws i hi
    refine ⟨g, c, rfl, hcap, (Array.getElem?_eq_some_iff.1 hc).1, ?_, ?_, ?_⟩
    · rw [hr.cellAt _ (by omega)]; exact a1
    · rw [hr.cellAt _ (by omega)]; exact a2
    · rw [hr.cellAt _ (by omega)]; exact a3
/-- The row lies as it lay. -/
theorem row_kept {K : Nat → Prop} {A B : World} {base : Nat} {n : Nat} {xs : List Value} (t : Touch (fun b => ¬ K b) A B) (h : A.ownsRow base 37 3 v n xs) (hk : ∀ b, v.ownBlock = some b → K b) : B.ownsRow base 37 3 v n xs :=
  t.row h (fun g o c e e2 => e2 (hk g (by rw [e]; rfl)))
theorem LastAt.below (h : LastAt W wr fg v ws L nl F) {W' : World} (hb : Below wr.heap.size wr W') : LastAt W W' fg v ws L nl F :=
  { h with fo := h.fo.below hb, row := (Touch.of_below hb (Nat.le_refl _) (fun _ => False)).row h.row (fun _ _ _ _ e => e) }
/-- One value more, laid behind both. -/
theorem LastAt.more (h : LastAt W wr fg v ws L nl F) {w2 w3 : World} {u : V} (hu : kindB u.1 = true ∧ VOk u) (hf : FOk W wr fg 0 { F with stk := F.stk ++ [u] } (fun b => v.ownBlock = some b) w2) {v' : Value}
    (hrow : w3.ownsRow W.heap.size 37 3 v' (ws.length + 1) (vcs ws ++ vc u)) {w2' : World} (hb : Below w2.heap.size w2 w2') (hg : w2'.grownBy w3 v.ownBlock) (hat : v'.ownBlock = v.ownBlock ∨ v'.ownBlock = some w2'.heap.size) :
    LastAt W w3 fg v' (ws ++ [u]) L nl { F with stk := F.stk ++ [u] } := by
  have e1 : (ws ++ [u]).length = ws.length + 1 := by simp
  have e2 : vcs (ws ++ [u]) = vcs ws ++ vc u := by rw [vcs_append]; simp [vcs]
  have h2 := hf.1.below hb
  have t : Touch (fun b => v.ownBlock = some b) w2' w3 := (Touch.refl _ _).grown hg (fun k e _ => e.symm ▸ rfl)
  refine ⟨?_, by rw [h.st], h.mn, h.lc, h.pl, by rw [e1, e2]; exact hrow, ?_⟩
  · obtain ⟨⟨base, gm, nm, A, cap, k0, k1, k2, k3⟩, k4, k5⟩ := h2
    refine ⟨⟨base, gm, nm, A, cap, k0.touch t (fun b hb2 e => (k3 b e).2 hb2), k1, k2, fun b hb2 => ?_⟩, k4.trans (t.below k4.size (fun b e => (h.row.lt b e).1)), k5⟩
    rcases hat with e | e
    · have hb3 : v.ownBlock = some b := by rw [← e]; exact hb2
      exact ⟨Nat.lt_of_lt_of_le (k3 b hb3).1 t.size, (k3 b hb3).2⟩
    · have e3 : some w2'.heap.size = some b := by rw [← e]; exact hb2
      injection e3 with e3
      subst e3
      exact ⟨(hrow.lt _ e).2, fun e => by have := k0.foot _ e; omega⟩
  · intro x hx
    rcases List.mem_append.1 hx with hx | hx
    · exact h.ok x hx
    · rw [List.mem_singleton] at hx
      rw [hx]
      exact hu
theorem rowcells {base g n cap : Nat} {xs : List V} (hr : wr.ownsRow base 37 3 (.slice (some ⟨g, 0, none⟩) n cap) n (vcs xs)) {i : Nat} (hi : i < xs.length) :
    wr.cell? ⟨g, i * 3, none⟩ = some (.int .u8 xs[i].1) ∧ wr.cell? ⟨g, i * 3 + 1, none⟩ = some (.int .i64 xs[i].2.1) ∧ wr.cell? ⟨g, i * 3 + 2, none⟩ = some (.int .i64 xs[i].2.2) ∧ g < wr.heap.size := by
  have hl := hr.1
  rw [vcs_length] at hl
  obtain ⟨a1, a2, a3⟩ := vcs_get xs i hi
  refine ⟨?_, ?_, ?_, (hr.lt g rfl).2⟩
  · rw [hr.cellAt _ (by omega)]; exact a1
  · rw [hr.cellAt _ (by omega)]; exact a2
  · rw [hr.cellAt _ (by omega)]; exact a3
/-- One value less on both. -/
theorem LastAt.less {l : List V} {u : V} {g cap : Nat} (h : LastAt W wr fg (.slice (some ⟨g, 0, none⟩) (l.length + 1) cap) (l ++ [u]) L nl F) {w2 : World} (hf : FOk W wr fg 0 { F with stk := l } (fun b => (Value.slice (some ⟨g, 0, none⟩) (l.length + 1) cap).ownBlock = some b) w2) :
    LastAt W w2 fg (.slice (some ⟨g, 0, none⟩) l.length cap) l L nl { F with stk := l } := by
  have hr := row_kept hf.2 h.row (fun b e => e)
  have e1 : (l ++ [u]).length = l.length + 1 := by simp
  have e2 : vcs (l ++ [u]) = vcs l ++ vc u := by rw [vcs_append]; simp [vcs]
  rw [e1, e2] at hr
  exact ⟨hf.1.less (fun b e => e), rfl, h.mn, h.lc, h.pl, ownsRow_pop (vcs_length l) hr, fun x hx => h.ok x (List.mem_append_left _ hx)⟩
theorem LastAt.top {l : List V} {u : V} (h : LastAt W wr fg v (l ++ [u]) L nl F) : topB F = true ∧ topV F = u ∧ popB F 0 = true ∧ popV F 0 = u ∧ popF F 0 = { F with stk := l } ∧ popB F u.1 = true ∧ popV F u.1 = u ∧ popF F u.1 = { F with stk := l } := by
  have e1 : topB F = true := by unfold topB; rw [h.st]; simp
  have e2 : topV F = u := by unfold topV; rw [h.st]; simp
  have e3 : popB F 0 = true := by unfold popB; rw [e1]; simp
  have e4 : popB F u.1 = true := by unfold popB; rw [e1, e2]; simp
  refine ⟨e1, e2, e3, by unfold popV; rw [e3, e2]; rfl, ?_, e4, by unfold popV; rw [e4, e2]; rfl, ?_⟩
  · unfold popF; rw [e3, if_pos rfl, h.st, List.dropLast_concat]
  · unfold popF; rw [e4, if_pos rfl, h.st, List.dropLast_concat]
end
theorem row_drewN {w : World} {base : Nat} {e : TypeId} {size : Nat} {v : Value} {n : Nat} {xs : List Value} (h : w.ownsRow base e size v n xs) (k : Nat) : (w.drewN k).ownsRow base e size v n xs := h
/-- The law's own stack, and a frame that has its first j. -/
structure DownAt (W wr : World) (fg : Nat) (v : Value) (ws : List V) (L : List V) (nl j : Nat) (F : Fr) : Prop where
  fo : FO W wr fg 0 F (fun b => v.ownBlock = some b)
  st : F.stk = ws.take j
  mn : F.many = nl
  lc : F.locs = L
  pl : F.place = 0
  row : wr.ownsRow W.heap.size 37 3 v ws.length (vcs ws)
  ok : ∀ u ∈ ws, kindB u.1 = true ∧ VOk u
theorem LastAt.down {W wr : World} {fg : Nat} {v : Value} {ws L : List V} {nl : Nat} {F : Fr} (h : LastAt W wr fg v ws L nl F) : DownAt W wr fg v ws L nl ws.length F :=
  ⟨h.fo, by rw [h.st, List.take_length], h.mn, h.lc, h.pl, h.row, h.ok⟩
theorem pop_other {F : Fr} {l : List V} {u : V} (h : F.stk = l ++ [u]) {k : Int} (h0 : k ≠ 0) (h1 : u.1 ≠ k) : popB F k = false ∧ popV F k = zv ∧ popF F k = F := by
  have e2 : topV F = u := by unfold topV; rw [h]; simp
  have e3 : popB F k = false := by
    unfold popB
    rw [e2, decide_eq_false (show ¬ (k = 0 ∨ u.1 = k) by rintro (e | e); exact h0 e; exact h1 e), Bool.and_false]
  exact ⟨e3, by unfold popV; rw [e3]; rfl, by unfold popF; rw [e3]; rfl⟩
theorem pop_this {F : Fr} {l : List V} {u : V} (h : F.stk = l ++ [u]) : topB F = true ∧ topV F = u ∧ popB F u.1 = true ∧ popV F u.1 = u ∧ popF F u.1 = { F with stk := l } := by
  have e1 : topB F = true := by unfold topB; rw [h]; simp
  have e2 : topV F = u := by unfold topV; rw [h]; simp
  have e4 : popB F u.1 = true := by unfold popB; rw [e1, e2]; simp
  exact ⟨e1, e2, e4, by unfold popV; rw [e4, e2]; rfl, by unfold popF; rw [e4, if_pos rfl, h, List.dropLast_concat]⟩
theorem newFr_loc (ls : List Int) {k : Nat} (hk : k < ls.length) : (newFr [] ls []).locs[k]? = some (lz ls[k]) := by
  unfold newFr
  simp only [List.nil_append]
  rw [List.getElem?_append_left (by simpa using hk), List.getElem?_map, List.getElem?_eq_getElem hk]
  rfl

end Go.Proofs.Ythllfeogchbihaa
