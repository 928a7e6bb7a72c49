/- HeapPlays: the document's own heap: New and Make. -/
import Derived.Test.YthllfeogchbihabHeapQ
import Derived.Deep.OwnRows
import Derived.OneCell
import Derived.Deep.AppendLies
import Derived.Deep.Onto
import Derived.Deep.RegionLawGrows
namespace Go.Proofs.Ythllfeogchbihab
open Go.RowKit Go.Shelf
set_option linter.unusedSimpArgs false
set_option linter.unusedVariables false

/-- One array more, in a new block; the row with one cell more. -/
theorem want_more {W W3 : World} {base : Nat} {v : Value} {gs : Nat → Nat} {ws : List (List Int)} (hw : WantAt W base v gs ws) {S : Nat → Prop} (ht : Touch S W W3) (hS : ∀ k, k < ws.length → ¬ S (gs k)) {nb n g' cap' : Nat}
    (hbk : Blk W3 nb ((List.replicate n (0 : Int)).map (Value.int .i64))) (hnb : W.heap.size ≤ nb)
    (hrow : W3.ownsRow base 25 1 (.slice (some ⟨g', 0, none⟩) (ws.length + 1) cap') (ws.length + 1) (wrow gs ws ++ [.slice (some ⟨nb, 0, none⟩) n n]))
    (hor : v.ownBlock = some g' ∨ (W.heap.size ≤ g' ∧ g' ≠ nb)) (hbs : base ≤ W.heap.size) :
    WantAt W3 base (.slice (some ⟨g', 0, none⟩) (ws.length + 1) cap') (fun j => if j = ws.length then nb else gs j) (ws ++ [List.replicate n 0]) ∧
      ∀ b, FW (.slice (some ⟨g', 0, none⟩) (ws.length + 1) cap') (fun j => if j = ws.length then nb else gs j) (ws ++ [List.replicate n 0]).length b → FW v gs ws.length b ∨ W.heap.size ≤ b := by
  have hnbk : ∀ k, k < ws.length → gs k ≠ nb := fun k hk e => by have := (hw.bk k hk).l; omega
  refine ⟨⟨?_, ?_, ?_, ?_, ?_⟩, ?_⟩
  · rw [wrow_push]
    simpa using hrow
  · intro k hk
    rw [List.length_append] at hk
    simp at hk
    rcases Nat.lt_or_ge k ws.length with h | h
    · rw [if_neg (by omega), List.getElem_append_left h]
      exact (hw.bk k h).touch ht (hS k h)
    · obtain rfl : k = ws.length := by omega
      rw [if_pos rfl, List.getElem_append_right (by omega)]
      simpa using hbk
  · intro i j hi hj e
    simp at hi hj
    by_cases e1 : i = ws.length <;> by_cases e2 : j = ws.length
    · omega
    · rw [if_pos e1, if_neg e2] at e
      exact absurd e.symm (hnbk j (by omega))
    · rw [if_neg e1, if_pos e2] at e
      exact absurd e (hnbk i (by omega))
    · rw [if_neg e1, if_neg e2] at e
      exact hw.inj i j (by omega) (by omega) e
  · intro k hk e
    simp at hk
    have e : g' = if k = ws.length then nb else gs k := by
      have e' : some g' = some (if k = ws.length then nb else gs k) := e
      injection e'
    by_cases e1 : k = ws.length
    · rw [if_pos e1] at e
      rcases hor with ho | ho
      · have := (hw.row.lt _ ho).2; omega
      · exact ho.2 e
    · rw [if_neg e1] at e
      have hl := (hw.bk k (by omega)).l
      rcases hor with ho | ho
      · exact hw.nr k (by omega) (by rw [ho, e])
      · omega
  · intro k hk
    simp at hk
    by_cases e1 : k = ws.length
    · simp only [if_pos e1]; omega
    · simp only [if_neg e1]; exact hw.lo k (by omega)
  · rintro b (e | ⟨k, hk, rfl⟩)
    · have e' : some g' = some b := e
      injection e' with e'
      subst e'
      rcases hor with ho | ho
      · exact .inl (.inl ho)
      · exact .inr ho.1
    · simp at hk
      by_cases e1 : k = ws.length
      · simp only [if_pos e1]; exact .inr hnb
      · simp only [if_neg e1]; exact .inl (.inr ⟨k, by omega, rfl⟩)

/-- What the document's Make answers. -/
def rkRef (room : Nat) (rs : List (List Int)) (n : Int) : Int := if fitsB room rs n then rs.length else 0
/-- What Make comes to. -/
def RMade (W : World) (base rh room : Nat) (v : Value) (gs : Nat → Nat) (rs : List (List Int)) (n : Int) (e : Ending) (W' : World) : Prop :=
  ∃ v' gs', e = .returned (.tuple #[.int .i64 (rkRef room rs n), .int .i64 (mkErr room rs n)]) ∧ Touch (fun b => b = rh ∨ v.ownBlock = some b) W W' ∧
    RefAt W' base rh room v' gs' (mkArrs room rs n) ∧ ∀ b, FW v' gs' (mkArrs room rs n).length b → FW v gs rs.length b ∨ W.heap.size ≤ b

section
variable {W : World} {base rh room : Nat} {v : Value} {gs : Nat → Nat} {rs : List (List Int)}
theorem RefAt.touch (h : RefAt W base rh room v gs rs) {S : Nat → Prop} {W' : World} (t : Touch S W W') (h1 : ¬ S rh) (h2 : ∀ b, FW v gs rs.length b → ¬ S b) : RefAt W' base rh room v gs rs :=
  { h with rb := h.rb.touch t h1, wa := h.wa.touch t h2 }
theorem RefAt.below (h : RefAt W base rh room v gs rs) {W' : World} (hb : Below W.heap.size W W') : RefAt W' base rh room v gs rs :=
  h.touch (Touch.of_below hb (Nat.le_refl _) (fun _ => False)) (fun e => e) (fun _ _ e => e)
theorem RefAt.drewN (h : RefAt W base rh room v gs rs) (k : Nat) : RefAt (W.drewN k) base rh room v gs rs :=
  h.touch ((Touch.refl (fun _ => False) _).drewN k) (fun e => e) (fun _ _ e => e)

theorem rmake_arg (h : RefAt W base rh room v gs rs) (n : Int) (hn : n < 0 ∨ 1024 < n) :
    Calls Try.prog 14 #[.pointer (some ⟨rh, 0, none⟩), .int .i64 n] W fun e W' => RMade W base rh room v gs rs n e W' := by
  have hf : fitsB room rs n = false := decide_eq_false (by omega)
  have H : Hid (RMade W base rh room v gs rs n (.returned (.tuple #[.int .i64 0, .int .i64 2])) W) := by
    apply Lib.hid
    refine ⟨v, gs, by simp [rkRef, mkErr, hf, hn], Touch.refl _ _, ?_, ?_⟩
    · unfold mkArrs; rw [hf]; exact h
    · unfold mkArrs; rw [hf]; exact fun b hb => .inl hb
  clear hf h
  by_cases h1 : n < 0
  · clear hn
    go_enter Try.func14, Try.ntmps14
    go_wp2_with fail
    go_ret2
    exact H.out
  · have h2 : 1024 < n := by omega
    clear hn
    go_enter Try.func14, Try.ntmps14
    go_wp2_with fail
    go_ret2
    exact H.out

theorem rmade_drewN {n : Int} {e : Ending} {W' : World} (h : RMade W base rh room v gs rs n e W') (k : Nat) : RMade W base rh room v gs rs n e (W'.drewN k) := by
  obtain ⟨v', gs', h1, h2, h3, h4⟩ := h
  exact ⟨v', gs', h1, h2.drewN k, h3.drewN k, h4⟩

theorem rmake_full (h : RefAt W base rh room v gs rs) (n : Nat) (hn : n ≤ 1024) (hf : room < rs.flatten.length + n) :
    Calls Try.prog 14 #[.pointer (some ⟨rh, 0, none⟩), .int .i64 n] W fun e W' => RMade W base rh room v gs rs n e W' := by
  have hff : fitsB room rs n = false := decide_eq_false (by omega)
  have H : Hid (RMade W base rh room v gs rs n (.returned (.tuple #[.int .i64 0, .int .i64 4])) W) := by
    apply Lib.hid
    refine ⟨v, gs, by simp [rkRef, mkErr, hff]; omega, Touch.refl _ _, ?_, ?_⟩
    · unfold mkArrs; rw [hff]; exact h
    · unfold mkArrs; rw [hff]; exact fun b hb => .inl hb
  have hu := fun k => rused_at (h.drewN k)
  have hc0 := h.rb.c 0 _ rfl
  have hsm := h.sm
  have hrm := h.rm
  generalize rs.flatten.length = L at *
  have HU := Lib.hid hu
  have h1 : (n : Int) ≤ 1024 := by omega
  have h2 : (0 : Int) ≤ (n : Int) := by omega
  have h3 : (room : Int) < (L : Int) + (n : Int) := by omega
  have h4 : (room : Int) ≤ 1024 := by omega
  have h5 : (L : Int) ≤ (room : Int) := by omega
  have h6 : IntKind.i64.wrap ((L : Int) + (n : Int)) = (L : Int) + (n : Int) := IntWalk.i64_in _ (by omega)
  clear hff hu h hsm hrm hf hn
  go_enter Try.func14, Try.ntmps14
  go_wp2_with fail
  go_quiet ((go_at_call 18; exact Calls.quiet_of_same (HU.out _)))
  go_wp2_with fail
  go_ret2
  exact rmade_drewN H.out _

theorem rmade_ok (h : RefAt W base rh room v gs rs) {n : Nat} (hn : n ≤ 1024) (hf : rs.flatten.length + n ≤ room) (hml : rs.length < 5000) {W' : World} (hbs : base ≤ W.heap.size) (ht : Touch (fun b => b = rh ∨ v.ownBlock = some b) W W') {g' cap' nb : Nat}
    (hb : Blk W' rh [.int .i64 room, .slice (some ⟨g', 0, none⟩) (rs.length + 1) cap']) (hbk : Blk W' nb ((List.replicate n (0 : Int)).map (Value.int .i64))) (hnb : W.heap.size ≤ nb)
    (hrow : W'.ownsRow base 25 1 (.slice (some ⟨g', 0, none⟩) (rs.length + 1) cap') (rs.length + 1) (wrow gs rs ++ [.slice (some ⟨nb, 0, none⟩) n n]))
    (hor : v.ownBlock = some g' ∨ (W.heap.size ≤ g' ∧ g' ≠ nb)) : RMade W base rh room v gs rs n (.returned (.tuple #[.int .i64 rs.length, .int .i64 0])) W' := by
  have hff : fitsB room rs (n : Int) = true := decide_eq_true (by omega)
  obtain ⟨k1, k2⟩ := want_more h.wa ht (fun k hk e => by
    rcases e with e | e
    · exact h.nf (.inr ⟨k, hk, e.symm⟩)
    · exact h.wa.nr k hk e) hbk hnb hrow hor hbs
  have he : mkArrs room rs (n : Int) = rs ++ [List.replicate n 0] := by
    unfold mkArrs
    rw [hff]
    rfl
  refine ⟨.slice (some ⟨g', 0, none⟩) (rs.length + 1) cap', fun j => if j = rs.length then nb else gs j, by simp [rkRef, mkErr, hff]; omega, ht, ?_, ?_⟩
  · rw [he]
    refine ⟨hb, k1, ?_, by rw [List.flatten_append, List.length_append]; simpa using hf, h.rm, by rw [List.length_append]; simp; omega⟩
    intro hfw
    rcases k2 rh hfw with e | e
    · exact h.nf e
    · have := h.rb.l; omega
  · rw [he]
    exact k2

theorem zeros_blk {W W1 : World} {n : Nat} (hn : n ≤ maxLen) (h : ∀ j, j < n → W1.cell? ⟨W.heap.size, j, none⟩ = some (.int .i64 0)) (hf : ∀ o, W1.frozen? ⟨W.heap.size, o, none⟩ = false) (hl : W.heap.size < W1.heap.size) : Blk W1 W.heap.size ((List.replicate n (0 : Int)).map (Value.int .i64)) := by
  refine ⟨fun j u hj => ?_, hf, hl⟩
  rw [List.getElem?_map, List.getElem?_replicate] at hj
  split at hj
  · rename_i hjn
    rw [h j hjn, ← hj]
    rfl
  · cases hj
theorem madeBlk (W : World) (n : Nat) {b : Nat} (hb : b = W.heap.size) : Blk (W.alloc (.cells (madeCells #[Value.int .i64 0] n) 2)) b ((List.replicate n (0 : Int)).map (Value.int .i64)) := by
  subst hb
  have h := Blk.new W (madeCells #[Value.int .i64 0] n) 2
  refine ⟨fun j u hj => h.c j u ?_, h.f, h.l⟩
  rw [List.getElem?_map, List.getElem?_replicate] at hj
  split at hj
  · rename_i hjn
    have := made_one n j hjn #[Value.int .i64 0] rfl
    rw [Nat.mul_one] at this
    rw [← hj]
    simpa using this
  · cases hj

theorem rmade_from {W1 : World} (t : Touch (fun _ => False) W W1) {n : Int} {e e' : Ending} {W' : World} (he : e' = e) (h : RMade W1 base rh room v gs rs n e W') : RMade W base rh room v gs rs n e' W' := by
  subst he
  obtain ⟨v', gs', h1, h2, h3, h4⟩ := h
  refine ⟨v', gs', h1, (t.mono (fun _ _ e => e.elim)).trans h2, h3, fun b hb => ?_⟩
  rcases h4 b hb with e | e
  · exact .inl e
  · exact .inr (Nat.le_trans t.size e)

theorem rmake_ok (h : RefAt W base rh room v gs rs) (n : Nat) (hn : n ≤ 1024) (hf : rs.flatten.length + n ≤ room) (hml : rs.length < 5000) (hrh : rh < W.heap.size) (hbs : base ≤ W.heap.size) :
    Calls Try.prog 14 #[.pointer (some ⟨rh, 0, none⟩), .int .i64 n] W fun e W' => RMade W base rh room v gs rs n e W' := by
  obtain ⟨i2, hi2, hz2, hs2, hy2⟩ := hp_parts info2
  obtain ⟨i25, hi, hz0, hz1, hzb⟩ := hp_parts info25
  have hmk := run_make_row (P := Try.prog) 25 2 i2 (.int .i64 0) Try.underlying25 hi2 hz2 hs2 rfl .i64 .i64 n (by rw [hy2]; omega) (by omega)
  have hu := fun k => rused_at (h.drewN k)
  have hc0 := h.rb.c 0 _ rfl
  have hc1 := h.rb.c 1 _ rfl
  have hf1 := h.rb.f 1
  have hsm := h.sm
  have hrm := h.rm
  obtain ⟨A, cap, rfl⟩ := h.form
  have H := Lib.hid h
  obtain ⟨L, hL⟩ : ∃ L, rs.flatten.length = L := ⟨_, rfl⟩
  obtain ⟨q, hq⟩ : ∃ q, rs.length = q := ⟨_, rfl⟩
  rw [hL] at hu hsm hf
  simp only [hq] at hc1
  rw [hq] at hml
  have HL := Lib.hid hL
  have HQ := Lib.hid hq
  have HU := Lib.hid hu
  have h1 : (n : Int) ≤ 1024 := by omega
  have h2 : (0 : Int) ≤ (n : Int) := by omega
  have h3 : (L : Int) + (n : Int) ≤ (room : Int) := by omega
  have h4 : (room : Int) ≤ 1024 := by omega
  have h5 : (L : Int) ≤ (room : Int) := by omega
  have h7 : (q : Int) ≤ 5000 := by omega
  have h6 : IntKind.i64.wrap ((L : Int) + (n : Int)) = (L : Int) + (n : Int) := IntWalk.i64_in _ (by omega)
  clear hu h hsm hrm hL hq
  go_enter Try.func14, Try.ntmps14
  go_wp2_with fail
  go_quiet ((go_at_call 18; exact Calls.quiet_of_same (HU.out _)))
  go_wp2_with fail
  clear h6 hc0
  have hh1 := H.out.drewN nq
  have t01 : Touch (fun _ => False) W (W.drewN nq) := (Touch.refl _ _).drewN nq
  have hc1 : (W.drewN nq).cell? ⟨rh, 1, none⟩ = some (.slice A q cap) := by simpa using hc1
  have hf1 : (W.drewN nq).frozen? ⟨rh, 1, none⟩ = false := by simpa using hf1
  have T01 := Lib.hid t01
  have H1 := Lib.hid hh1
  clear t01 hh1 H HU
  have hsz : (W.drewN nq).heap.size = W.heap.size := rfl
  have HSZ := Lib.hid hsz
  clear hsz
  generalize W.drewN nq = W1 at *
  have hnbb : q + 1 ≤ maxLen := by unfold maxLen; omega
  by_cases hcp : q + 1 ≤ cap
  · obtain ⟨g, rfl, hgb, hgc, hgf, hgl⟩ : ∃ g, A = some ⟨g, 0, none⟩ ∧ base ≤ g ∧ (∃ x, W1.cell? ⟨g, q, none⟩ = some x) ∧ W1.frozen? ⟨g, q, none⟩ = false ∧ g < W1.heap.size := by
      obtain ⟨-, hr⟩ := H1.out.wa.row
      rcases hr with ⟨e, e2⟩ | ⟨g, c, cur, e, hb, hc, h8, h9, h10, -⟩
      · injection e with e3 e4 e5; omega
      · injection e with e3 e4 e5
        refine ⟨g, e3, hb, ⟨cur[q]'(by omega), ?_⟩, ?_, (Array.getElem?_eq_some_iff.1 hc).1⟩
        · unfold World.cell?
          simp only [hc]
          simp
        · unfold World.frozen?
          simp only [hc]
          simp
    obtain ⟨x0, hx0⟩ := hgc
    have hng : ¬ rh = g := fun e => H1.out.nf (.inl (by rw [e]; rfl))
    have hng' : ¬ g = rh := fun e => hng e.symm
    have hrl : rh < W1.heap.size := by rw [HSZ.out]; exact hrh
    go_region
    obtain ⟨W', hW'⟩ : ∃ W', ((((W1.setCell ⟨g, q, none⟩ (.slice (some ⟨W1.heap.size, 0, none⟩) n n)).setCell ⟨rh, 1, none⟩ (.slice (some ⟨g, 0, none⟩) (q + 1) cap)).alloc (.cells (madeCells #[.int .i64 0] n) 2)).alloc (.cells #[.slice (some ⟨W1.heap.size, 0, none⟩) n n] 25)).drew = W' := ⟨_, rfl⟩
    have hmd : Hid (RMade W1 base rh room (.slice (some ⟨g, 0, none⟩) rs.length cap) gs rs n (.returned (.tuple #[.int .i64 rs.length, .int .i64 0])) W' ∧ W'.cell? ⟨rh, 1, none⟩ = some (.slice (some ⟨g, 0, none⟩) (q + 1) cap)) := by
      apply Lib.hid
      have ht0 : Touch (fun k => k = rh ∨ (Value.slice (some ⟨g, 0, none⟩) rs.length cap).ownBlock = some k) W1 W' := by
        rw [← hW']
        exact (((((Touch.refl _ _).setCell _ _ (fun _ => .inr rfl)).setCell _ _ (fun _ => .inl rfl)).alloc _).alloc _).drew
      have hb : Blk W' rh [.int .i64 room, .slice (some ⟨g, 0, none⟩) (rs.length + 1) cap] := by
        rw [← hW', HQ.out]
        exact ((((H1.out.rb.other hng' q _).set (j := 1) rfl _).alloc _).alloc _).drew
      have hc := hb.c 1 _ rfl
      rw [HQ.out] at hc
      refine ⟨rmade_ok H1.out hn (by rw [HL.out]; exact hf) (by rw [HQ.out]; exact hml) (by rw [HSZ.out]; exact hbs) ht0 hb ?_ (Nat.le_refl _) ?_ (.inl rfl), hc⟩
      · rw [← hW']
        exact ((madeBlk _ n (by simp)).alloc _).drew
      · rw [← hW', HQ.out]
        have hr0 := row_push (v := .slice (some ⟨W1.heap.size, 0, none⟩) n n) (HQ.out ▸ H1.out.wa.row) (show q < cap by omega)
        exact (((ownsRow_setCell_other hr0 (a := ⟨rh, 1, none⟩) (by show some g ≠ some rh; intro e; injection e with e; exact hng' e) _).alloc _).alloc _).drew
    rw [hW']
    have c1' := hmd.out.2
    clear hW' hc1 hf1 hx0 hgf
    go_wp2_with fail
    go_ret2
    exact rmade_from T01.out (by rw [HQ.out]; rfl) hmd.out.1
  · have OLD : Hid (∀ b, A = some b → ∀ j u, (wrow gs rs)[j]? = some u → (b.add j).block < W1.heap.size ∧ W1.cell? (b.add j) = some u) := by
      apply Lib.hid
      intro b hb j u hj
      subst hb
      have hr := H1.out.wa.row
      rcases hr.2 with ⟨e, -⟩ | ⟨g, c, cur, e, hb, hc, h8⟩
      · injection e with e; cases e
      · injection e with e; injection e with e; subst e
        exact ⟨by have := (Array.getElem?_eq_some_iff.1 hc).1; unfold Addr.add; split <;> exact this, hr.cells rfl j u hj⟩
    have hnil : A = none → q = 0 ∧ cap = 0 := by
      intro e
      subst e
      have hr := H1.out.wa.row
      rw [HQ.out] at hr
      rcases hr.2 with ⟨e, e2⟩ | ⟨g, c, cur, e, hb, hc, h8⟩
      · injection e with e1 e2 e3; exact ⟨e2, e3⟩
      · injection e with e; cases e
    have hql : (wrow gs rs).length = q := by rw [wrow_length, HQ.out]
    generalize holds : wrow gs rs = olds at hql OLD
    have HOLDS := Lib.hid holds
    clear holds
    have hrl : rh < W1.heap.size := by rw [HSZ.out]; exact hrh
    have hng : ¬ rh = W1.heap.size := by omega
    have hng2 : ¬ rh = W1.heap.size + 1 := by omega
    have hcW : ((W1.alloc (.cells (madeCells #[.int .i64 0] n) 2)).alloc (.cells #[.slice (some ⟨W1.heap.size, 0, none⟩) n n] 25)).drew.cell? ⟨W1.heap.size + 1, 0, none⟩ = some (.slice (some ⟨W1.heap.size, 0, none⟩) n n) := by
      have := World.cell?_alloc_new (W1.alloc (.cells (madeCells #[.int .i64 0] n) 2)) #[.slice (some ⟨W1.heap.size, 0, none⟩) n n] 25 0
      simp
    have hBW : Below W1.heap.size W1 ((W1.alloc (.cells (madeCells #[.int .i64 0] n) 2)).alloc (.cells #[.slice (some ⟨W1.heap.size, 0, none⟩) n n] 25)).drew := by
      have h := ((Below.refl W1.heap.size W1).alloc (Nat.le_refl _) (.cells (madeCells #[.int .i64 0] n) 2)).alloc (by simp) (.cells #[.slice (some ⟨W1.heap.size, 0, none⟩) n n] 25)
      exact ⟨h.os, h.tape, h.output, h.size, h.block⟩
    have hMB := ((madeBlk W1 n rfl).alloc (.cells #[.slice (some ⟨W1.heap.size, 0, none⟩) n n] 25)).drew
    have MB := Lib.hid hMB
    have BW := Lib.hid hBW
    have CW := Lib.hid hcW
    have hqb : (q + 1) * 24 ≤ 140737488355328 := by omega
    clear hBW hcW hMB
    go_region_law (refine step_append_grows rfl (.tmp 25) (.tmp 28) 26 rfl 25 i25 (.slice none 0 0) 1 24 Try.underlying26 hi hz0 hz1 hzb rfl (by decide) A q cap olds (by simp [Act.eval, Act.put]) hnil (by omega) (by intro b hb j u hj; obtain ⟨h3, h4⟩ := OLD.out b hb j u hj; rw [← h4]; exact BW.out.cell (p := b.add j) h3) ⟨W1.heap.size + 1, 0, none⟩ 1 1 [.slice (some ⟨W1.heap.size, 0, none⟩) n n] (by simp [Act.eval, Act.put]) rfl (by intro j u hj; obtain ⟨hj, e⟩ := List.getElem?_eq_some_iff.1 hj; have hj0 : j = 0 := (by simpa using hj); subst hj0; rw [← e]; exact CW.out) (by intro u hu; rw [List.mem_singleton] at hu; subst hu; rfl) (by omega) hnbb hqb ?_; intro v' w' hown hgrow; obtain ⟨g', cap', rfl, hg1, hg2⟩ := World.ownsRow.form hown (by omega); have hbl' := (hgrow.block rh (Nat.lt_of_lt_of_le hrl BW.out.size) (by simp)).trans (BW.out.block rh hrl); have hc' := (World.cell?_of_block (a := ⟨rh, 1, none⟩) hbl').trans hc1; have hf' := (World.frozen?_of_block (a := ⟨rh, 1, none⟩) hbl').trans hf1; have HOWN := Lib.hid hown; have HGROW := Lib.hid hgrow; clear hown hgrow hbl')
    all_goals
      obtain ⟨W', hW'⟩ : ∃ W', w'.setCell ⟨rh, 1, none⟩ (.slice (some ⟨g', 0, none⟩) (q + 1) cap') = W' := ⟨_, rfl⟩
      have hmd : Hid (RMade W1 base rh room (.slice A rs.length cap) gs rs n (.returned (.tuple #[.int .i64 rs.length, .int .i64 0])) W' ∧ W'.cell? ⟨rh, 1, none⟩ = some (.slice (some ⟨g', 0, none⟩) (q + 1) cap')) := by
        apply Lib.hid
        have ht0 : Touch (fun k => k = rh) W1 w' := (Touch.of_below BW.out (Nat.le_refl _) _).grown HGROW.out (fun k e => by cases e)
        have ht1 : Touch (fun k => k = rh ∨ (Value.slice A rs.length cap).ownBlock = some k) W1 W' := by
          rw [← hW']
          exact (ht0.mono (fun _ _ e => .inl e)).setCell _ _ (fun _ => .inl rfl)
        have hsz2 := BW.out.size
        have hsz3 : W1.heap.size + 2 ≤ g' := by simpa using hg1
        have hown := HOWN.out
        have hb : Blk W' rh [.int .i64 room, .slice (some ⟨g', 0, none⟩) (rs.length + 1) cap'] := by
          rw [← hW', HQ.out]
          have hb1 := (H1.out.rb.touch (Touch.of_below BW.out (Nat.le_refl _) (fun _ => False)) (fun e => e)).touch ((Touch.refl (fun _ => False) _).grown HGROW.out (fun k e => by cases e)) (fun e => e)
          exact hb1.set (j := 1) rfl _
        have hc := hb.c 1 _ rfl
        rw [HQ.out] at hc
        refine ⟨rmade_ok H1.out hn (by rw [HL.out]; exact hf) (by rw [HQ.out]; exact hml) (by rw [HSZ.out]; exact hbs) ht1 hb (nb := W1.heap.size) ?_ (Nat.le_refl _) ?_ (.inr ⟨by omega, by omega⟩), hc⟩
        · rw [← hW']
          have hb1 := MB.out.touch ((Touch.refl (fun _ => False) _).grown HGROW.out (fun k e => by cases e)) (fun e => e)
          exact hb1.other (by omega) 1 _
        · rw [← hW', HQ.out, HOLDS.out]
          refine ownsRow_setCell_other (hown.mono (Nat.le_trans (by rw [HSZ.out]; exact hbs : base ≤ W1.heap.size) hsz2)) (a := ⟨rh, 1, none⟩) ?_ _
          show some g' ≠ some rh
          intro e
          injection e with e
          omega
      rw [hW']
      have c1' := hmd.out.2
      clear hW'
      go_wp2_with fail
      go_ret2
      exact rmade_from T01.out (by rw [HQ.out]; rfl) hmd.out.1
end
end Go.Proofs.Ythllfeogchbihab
