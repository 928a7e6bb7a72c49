/- FramePlays: the document's own frame: Set, Push, Pop. -/
import Derived.Test.YthllfeogchbihaaFrameR
namespace Go.Proofs.Ythllfeogchbihaa
open Go.RowKit
set_option linter.unusedSimpArgs false
set_option linter.unusedVariables false

theorem row_set {W : World} {base : Nat} {e : TypeId} {size g n cap : Nat} {xs : List Value} (h : W.ownsRow base e size (.slice (some ⟨g, 0, none⟩) n cap) n xs) (j : Nat) (x : Value) :
    (W.setCell ⟨g, j, none⟩ x).ownsRow base e size (.slice (some ⟨g, 0, none⟩) n cap) n (xs.set j x) := by
  obtain ⟨hl, h⟩ := h
  refine ⟨by simp [hl], .inr ?_⟩
  rcases h with ⟨e1, -⟩ | ⟨g', c, cur, e1, hb, hg, h1, h2, h3, h4⟩
  · cases e1
  · injection e1 with e1 e2 e3
    injection e1 with e1
    injection e1 with e1
    subst e1 e3
    refine ⟨g, cap, cur.setIfInBounds j x, rfl, hb, ?_, h1, h2, by simpa using h3, ?_⟩
    · simp [World.setCell, Array.getElem?_modify, hg]
    · rw [Array.toList_setIfInBounds, List.take_set, h4]
theorem row_free {W : World} {base : Nat} {e : TypeId} {size g n cap : Nat} {xs : List Value} (h : W.ownsRow base e size (.slice (some ⟨g, 0, none⟩) n cap) n xs) (o : Nat) : W.frozen? ⟨g, o, none⟩ = false := h.frozenAt _

def RStep (W : World) (base rf c : Nat) (la sa ta : Value) (F : Fr) (W' : World) : Prop :=
  ∃ la' sa' ta' tl', Touch (RF rf la sa ta) W W' ∧ RfAt W' base rf c la' sa' ta' tl' F ∧ ∀ b, RF rf la' sa' ta' b → RF rf la sa ta b ∨ W.heap.size ≤ b
section
variable {W : World} {base rf c : Nat} {la sa ta : Value} {tl : List (Int × Int)} {F : Fr}
theorem RStep.more {F' : Fr} {c' : Nat} {W1 W2 : World} (h : RStep W base rf c' la sa ta F' W1) (hb : Below W1.heap.size W1 W2) : RStep W base rf c' la sa ta F' W2 := by
  obtain ⟨la', sa', ta', tl', h1, h2, h3⟩ := h
  exact ⟨la', sa', ta', tl', h1.trans (Touch.of_below hb (Nat.le_refl _) _), h2.below hb, h3⟩
theorem RfAt.same (h : RfAt W base rf c la sa ta tl F) {W' : World} (hb : Below W.heap.size W W') : RStep W base rf c la sa ta F W' :=
  ⟨la, sa, ta, tl, Touch.of_below hb (Nat.le_refl _) _, h.below hb, fun b e => .inl e⟩
/-- A step from a world a little later. -/
theorem RStep.from {F' : Fr} {c' : Nat} {W1 W2 : World} (hb : Below W.heap.size W W1) (h : RStep W1 base rf c' la sa ta F' W2) : RStep W base rf c' la sa ta F' W2 := by
  obtain ⟨la', sa', ta', tl', h1, h2, h3⟩ := h
  refine ⟨la', sa', ta', tl', (Touch.of_below hb (Nat.le_refl _) _).trans h1, h2, fun b e => ?_⟩
  rcases h3 b e with e | e
  · exact .inl e
  · exact .inr (Nat.le_trans hb.size e)

/-! Set -/
theorem RfAt.setLoc (h : RfAt W base rf c la sa ta tl F) {i g cap : Nat} (hi : i < F.many) (hla : la = .slice (some ⟨g, 0, none⟩) F.many cap) (v : V) (hv : VOk v) {W' : World} (hw : W' = ((W.setCell ⟨g, i * 3, none⟩ (.int .u8 v.1)).setCell ⟨g, i * 3 + 1, none⟩ (.int .i64 v.2.1)).setCell ⟨g, i * 3 + 2, none⟩ (.int .i64 v.2.2)) :
    RStep W base rf c la sa ta { F with locs := F.locs.set i v } W' := by
  subst hla
  have t : Touch (fun b => b = g) W W' := by
    rw [hw]
    exact (((Touch.refl (fun b => b = g) W).setCell _ _ (fun _ => rfl)).setCell _ _ (fun _ => rfl)).setCell _ _ (fun _ => rfl)
  have hb := (h.rl.lt g rfl).1
  have hb1 := h.b1
  refine ⟨_, sa, ta, tl, t.mono (fun b _ e => .inr (.inl (by rw [e]; rfl))), { h with blk := h.blk.touch t (by omega), ll := by simpa using h.ll, rl := ?_, rs := row_touch t h.rs (fun b e e2 => h.d1 g rfl (by rw [← e2]; exact e)), rt := row_touch t h.rt (fun b e e2 => h.d2 g rfl (by rw [← e2]; exact e)), bs := Nat.le_trans h.bs t.size, vo := ?_ }, fun b e => .inl e⟩
  · have h1 := row_set (row_set (row_set h.rl (i * 3) (.int .u8 v.1)) (i * 3 + 1) (.int .i64 v.2.1)) (i * 3 + 2) (.int .i64 v.2.2)
    rw [vcs_set _ _ _ (by rw [List.length_take, h.ll]; have := h.ml; omega), ← List.take_set] at h1
    rw [hw]
    exact h1
  · intro u hu
    rcases List.mem_or_eq_of_mem_set hu with hu | rfl
    · exact h.vo u hu
    · exact hv

set_option maxHeartbeats 1000000 in
theorem rset_at (h : RfAt W base rf c la sa ta tl F) (i : Int) (v : V) (hv : VOk v) :
    Calls Try.prog 27 #[.pointer (some ⟨rf, 0, none⟩), .int .i64 i, vagg v] W fun e W' => e = .returned (.bool (setB F i v)) ∧ RStep W base rf c la sa ta (setF F i v) W' := by
  have hb0 : Below W.heap.size W (W.alloc (.cells #[.int .u8 v.1, .int .i64 v.2.1, .int .i64 v.2.2] 37)) := (Below.refl _ _).alloc (Nat.le_refl _) _
  have hl := h.blk.l
  have hm := h.blk.c 0 _ rfl
  have hml := h.ml
  by_cases hi : 0 ≤ i ∧ i < F.many
  · obtain ⟨k, rfl⟩ := Int.eq_ofNat_of_zero_le hi.1
    have hk : k < F.locs.length := by rw [h.ll]; omega
    have e1 : getB F k = true := decide_eq_true hi
    have e2 : getV F k = F.locs[k] := by unfold getV; rw [e1, if_pos rfl, Int.toNat_natCast, List.getElem?_eq_getElem hk, Option.getD_some]
    have hrl := h.rl
    obtain ⟨g, cap, e3, hcap, hgb, hgl⟩ := row_some hrl (by omega)
    rw [e3] at hm hrl
    have hkt : k < (F.locs.take F.many).length := by rw [List.length_take]; omega
    obtain ⟨a0, a1, a2, -⟩ := rowcells hrl hkt
    rw [List.getElem_take] at a0 a1 a2
    have f0 := row_free hrl (k * 3)
    have f1 := row_free hrl (k * 3 + 1)
    have f2 := row_free hrl (k * 3 + 2)
    have b1 : (k : Int) < (F.many : Int) := by omega
    have b2 : (F.many : Int) ≤ 16 := by omega
    have hne : ¬ g = rf := by have := h.b1; omega
    have hne2 : ¬ rf = g := fun e => hne e.symm
    have hlW : ¬ g = W.heap.size := by omega
    by_cases hkd : F.locs[k].1 = v.1
    · have e4 : setB F k v = true := by unfold setB; rw [e1, e2, decide_eq_true hkd]; rfl
      have e5 : setF F k v = { F with locs := F.locs.set k v } := by unfold setF; rw [e4, if_pos rfl, Int.toNat_natCast]
      rw [e4, e5]
      have HFIN := Lib.hid (fun W1 (hb : Below W.heap.size W W1) X hX => RStep.from hb ((h.below hb).setLoc (W' := X) (show k < F.many by omega) e3 v hv hX))
      have HB0 := Lib.hid hb0
      obtain ⟨y0, y1, y2⟩ := v
      unfold vagg
      dsimp only at *
      rw [hkd] at a0
      clear h e1 e2 e3 e4 e5 hrl hi hkd hv
      generalize F.locs[k].2.1 = x1 at *
      generalize F.locs[k].2.2 = x2 at *
      clear hkt
      generalize F.many = M at *
      have z1 : decide ((k : Int) < 0) = false := decide_eq_false (by omega)
      have z2 : decide (M ≤ k) = false := decide_eq_false (by omega)
      have z3 : decide ((M : Int) ≤ (k : Int)) = false := decide_eq_false (by omega)
      have z4 : (0 : Int) ≤ (k : Int) := by omega
      go_enter Try.func27, Try.ntmps27
      go_wp2_with fail
      go_quiet (fail)
      go_wp2_with fail
      go_region
      go_wp2_with fail
      go_ret
      exact ⟨rfl, HFIN.out _ (below_drewN HB0.out _) _ rfl⟩
    · have e4 : setB F k v = false := by unfold setB; rw [e1, e2, decide_eq_false hkd]; rfl
      have e5 : setF F k v = F := by unfold setF; rw [e4]; rfl
      rw [e4, e5]
      have HFIN := Lib.hid (h.same hb0)
      obtain ⟨y0, y1, y2⟩ := v
      unfold vagg
      dsimp only at *
      have hx : (F.locs[k].1 != y0) = true := by rw [bne_iff_ne]; exact hkd
      clear h e1 e2 e3 e4 e5 hrl hi hkd hv hb0
      generalize F.locs[k].1 = x0 at *
      generalize F.locs[k].2.1 = x1 at *
      generalize F.locs[k].2.2 = x2 at *
      clear hkt
      generalize F.many = M at *
      have z1 : decide ((k : Int) < 0) = false := decide_eq_false (by omega)
      have z2 : decide (M ≤ k) = false := decide_eq_false (by omega)
      have z3 : decide ((M : Int) ≤ (k : Int)) = false := decide_eq_false (by omega)
      have z4 : (0 : Int) ≤ (k : Int) := by omega
      go_enter Try.func27, Try.ntmps27
      go_wp2_with fail
      go_quiet (fail)
      go_wp2_with fail
      go_ret
      exact ⟨rfl, HFIN.out.more (below_drewN (Below.refl _ _) _)⟩
  · have e1 : getB F i = false := decide_eq_false hi
    have e4 : setB F i v = false := by unfold setB; rw [e1]; rfl
    have e5 : setF F i v = F := by unfold setF; rw [e4]; rfl
    rw [e4, e5]
    have HFIN := Lib.hid (h.same hb0)
    obtain ⟨A2, c2, e3⟩ := row_form h.rl
    rw [e3] at hm
    obtain ⟨y0, y1, y2⟩ := v
    unfold vagg
    dsimp only at *
    have b2 : (F.many : Int) ≤ 16 := by omega
    clear e1 e4 e5 e3 h hv hb0
    generalize F.many = M at *
    by_cases h0 : i < 0
    · clear hi
      go_enter Try.func27, Try.ntmps27
      go_wp2_with fail
      go_quiet (fail)
      go_wp2_with fail
      go_ret
      exact ⟨rfl, HFIN.out.more (below_drewN (Below.refl _ _) _)⟩
    · have h1 : (M : Int) ≤ i := by omega
      have h2 : 0 ≤ i := by omega
      have h3 : decide (i < 0) = false := decide_eq_false h0
      clear hi h0
      go_enter Try.func27, Try.ntmps27
      go_wp2_with fail
      go_quiet (fail)
      go_wp2_with fail
      go_ret
      exact ⟨rfl, HFIN.out.more (below_drewN (Below.refl _ _) _)⟩

/-! Push -/
theorem RfAt.restack (h : RfAt W base rf c la sa ta tl F) {W1 W' : World} {sa' : Value} {l : List V} {S : Nat → Prop} (t : Touch S W W1) (hS : ∀ b, S b → sa.ownBlock = some b) (hrow : W1.ownsRow base 37 3 sa' l.length (vcs l)) (hl : l.length ≤ 256) (hso : ∀ v ∈ l, VOk v)
    (hat : ∀ b, sa'.ownBlock = some b → sa.ownBlock = some b ∨ W.heap.size ≤ b) (hw : W' = W1.setCell ⟨rf, 1, none⟩ sa') : RStep W base rf c la sa ta { F with stk := l } W' := by
  have t1 : Touch (fun b => b = rf) W1 W' := by
    rw [hw]
    exact (Touch.refl (fun b => b = rf) W1).setCell _ _ (fun _ => rfl)
  have hb1 := h.b1
  have n0 : ¬ S rf := fun e => by have := (h.rs.lt rf (hS rf e)).1; omega
  refine ⟨la, sa', ta, tl, (t.mono (fun b _ e => .inr (.inr (.inl (hS b e))))).trans (t1.mono (fun b _ e => .inl e)), { h with blk := ?_, sl := hl, rl := row_touch t1 (row_touch t h.rl (fun b e e2 => h.d1 b e (hS b e2))) (fun b e e2 => ?_), rs := row_touch t1 hrow (fun b e e2 => ?_), rt := row_touch t1 (row_touch t h.rt (fun b e e2 => h.d3 b (hS b e2) e)) (fun b e e2 => ?_), bs := Nat.le_trans h.bs (Nat.le_trans t.size t1.size), so := hso, d1 := ?_, d3 := ?_ }, ?_⟩
  · have hb := (h.blk.touch t n0).set (j := 1) (u := sa) rfl sa'
    rw [hw]
    exact hb
  · have e2 : b = rf := e2
    have := (h.rl.lt b e).1
    omega
  · have e2 : b = rf := e2
    have := (hrow.lt b e).1
    omega
  · have e2 : b = rf := e2
    have := (h.rt.lt b e).1
    omega
  · intro b e e2
    rcases hat b e2 with e3 | e3
    · exact h.d1 b e e3
    · have := (h.rl.lt b e).2; omega
  · intro b e e2
    rcases hat b e with e3 | e3
    · exact h.d3 b e3 e2
    · have := (h.rt.lt b e2).2; omega
  · rintro b (e | e | e | e)
    · exact .inl (.inl e)
    · exact .inl (.inr (.inl e))
    · rcases hat b e with e3 | e3
      · exact .inl (.inr (.inr (.inl e3)))
      · exact .inr e3
    · exact .inl (.inr (.inr (.inr e)))

theorem rpush_no (h : RfAt W base rf c la sa ta tl F) (v : V) (hv : VOk v) (hn : pushB F v = false) :
    Calls Try.prog 28 #[.pointer (some ⟨rf, 0, none⟩), vagg v] W fun e W' => e = .returned (.bool false) ∧ Below W.heap.size W W' := by
  have hb0 : Below W.heap.size W (W.alloc (.cells #[.int .u8 v.1, .int .i64 v.2.1, .int .i64 v.2.2] 37)) := (Below.refl _ _).alloc (Nat.le_refl _) _
  have h1 := h.below hb0
  have HK := Lib.hid (fun W => rkind_any v.1 W hv.1.1 hv.1.2)
  have HZ := Lib.hid (rsize_at h1)
  obtain ⟨y0, y1, y2⟩ := v
  unfold vagg
  dsimp only at *
  by_cases hk : kindB y0 = false
  · rw [hk] at HK
    clear hn hv h h1 hk
    go_enter Try.func28, Try.ntmps28
    go_wp2_with fail
    refine (HK.out _).mono ?_
    rintro e w1 ⟨rfl, rfl⟩
    go_wp2_with fail
    go_ret
    exact ⟨rfl, hb0⟩
  · have hk2 : kindB y0 = true := by simpa using hk
    have hz : (256 : Int) ≤ (F.many : Int) + (F.stk.length : Int) := by
      unfold pushB at hn
      dsimp only at hn
      rw [hk2, Bool.true_and] at hn
      have := of_decide_eq_false hn
      omega
    rw [hk2] at HK
    generalize F.many = m at *
    generalize F.stk.length = n at *
    have HB0 := Lib.hid hb0
    clear hn hv h h1 hk hk2 hb0
    go_enter Try.func28, Try.ntmps28
    go_wp2_with fail
    refine (HK.out _).mono ?_
    rintro e w1 ⟨rfl, rfl⟩
    go_wp2_with fail
    refine HZ.out.mono ?_
    rintro e w1 ⟨rfl, nk, rfl⟩
    go_wp2_with fail
    go_ret
    exact ⟨rfl, below_drewN HB0.out _⟩

set_option maxRecDepth 100000 in
set_option maxHeartbeats 1000000 in
theorem rpush_yes (h : RfAt W base rf c la sa ta tl F) (v : V) (hv : VOk v) (hn : pushB F v = true) :
    Calls Try.prog 28 #[.pointer (some ⟨rf, 0, none⟩), vagg v] W fun e W' => e = .returned (.bool true) ∧ RStep W base rf c la sa ta { F with stk := F.stk ++ [v] } W' := by
  obtain ⟨i37, hi, hz0, hz1, hz2⟩ := fr_parts info37
  have hb0 : Below W.heap.size W (W.alloc (.cells #[.int .u8 v.1, .int .i64 v.2.1, .int .i64 v.2.2] 37)) := (Below.refl _ _).alloc (Nat.le_refl _) _
  have h1 := h.below hb0
  have hbx := boxed W v
  have HK := Lib.hid (fun W => rkind_any v.1 W hv.1.1 hv.1.2)
  unfold pushB at hn
  simp only [Bool.and_eq_true, decide_eq_true_eq] at hn
  rw [hn.1] at HK
  have HZ := Lib.hid (rsize_at h1)
  have hz : (F.many : Int) + (F.stk.length : Int) < 256 := by omega
  have hz' : (0 : Int) ≤ (F.many : Int) + (F.stk.length : Int) := by omega
  obtain ⟨A, cap, hsa⟩ := row_form h.rs
  have e1 : (F.stk ++ [v]).length = F.stk.length + 1 := by simp
  have e2 : vcs (F.stk ++ [v]) = vcs F.stk ++ [.int .u8 v.1, .int .i64 v.2.1, .int .i64 v.2.2] := by rw [vcs_append]; rfl
  have HFIN : Hid (∀ W1 W2 g' cap' X, Below W.heap.size W W1 → W2.ownsRow base 37 3 (.slice (some ⟨g', 0, none⟩) (F.stk.length + 1) cap') (F.stk.length + 1) (vcs F.stk ++ [.int .u8 v.1, .int .i64 v.2.1, .int .i64 v.2.2]) → W1.grownBy W2 sa.ownBlock →
      (sa.ownBlock = some g' ∨ W1.heap.size ≤ g') → X = W2.setCell ⟨rf, 1, none⟩ (.slice (some ⟨g', 0, none⟩) (F.stk.length + 1) cap') → RStep W base rf c la sa ta { F with stk := F.stk ++ [v] } X) := by
    apply Lib.hid
    intro W1 W2 g' cap' X hb hown hg hor hX
    rw [← e1, ← e2] at hown
    rw [← e1] at hX
    refine RStep.from hb ((h.below hb).restack (S := fun b => sa.ownBlock = some b) ((Touch.refl _ _).grown hg (fun k e _ => e.symm ▸ rfl)) (fun b e => e) hown (by omega) (fun u hu => ?_) (fun b e => ?_) hX)
    · rcases List.mem_append.1 hu with hu | hu
      · exact h.so u hu
      · rw [List.mem_singleton] at hu; rw [hu]; exact hv
    · have e : some g' = some b := e
      injection e with e
      subst e
      exact hor
  obtain ⟨y0, y1, y2⟩ := v
  unfold vagg
  dsimp only at *
  have HW : Hid (∀ nk, ∃ WR, ((W.alloc (.cells #[.int .u8 y0, .int .i64 y1, .int .i64 y2] 37)).drewN nk) = WR ∧ RfAt WR base rf c la sa ta tl F ∧ Below W.heap.size W WR ∧ Blk WR W.heap.size (vc (y0, y1, y2))) :=
    Lib.hid (fun nk => ⟨_, rfl, h1.below (below_drewN (Below.refl _ _) nk), below_drewN hb0 nk, hbx.drewN nk⟩)
  obtain ⟨bx, hbxe⟩ : ∃ bx, W.heap.size = bx := ⟨_, rfl⟩
  have hne : ¬ rf = bx := by have := h.blk.l; omega
  have hsl := h.sl
  generalize hm : F.many = m at *
  generalize hnn : F.stk.length = n at *
  have HNN := Lib.hid hnn
  have n1 : (n : Int) ≤ 256 := by omega
  have n2 : n ≤ 256 := by omega
  subst hsa
  clear hb0 h1 hbx h hn hm hnn hv hsl e1 e2
  go_enter Try.func28, Try.ntmps28
  go_wp2_with fail
  refine (HK.out _).mono ?_
  rintro e w1 ⟨rfl, rfl⟩
  go_wp2_with fail
  refine HZ.out.mono ?_
  rintro e w1 ⟨rfl, nk, rfl⟩
  obtain ⟨WR, hWR, h2, t2, b2⟩ := HW.out nk
  rw [hWR]
  rw [hbxe] at b2
  have d0 : WR.cell? ⟨bx, 0, none⟩ = some (.int .u8 y0) := b2.c 0 _ rfl
  have d1 : WR.cell? ⟨bx, 1, none⟩ = some (.int .i64 y1) := b2.c 1 _ rfl
  have d2 : WR.cell? ⟨bx, 2, none⟩ = some (.int .i64 y2) := b2.c 2 _ rfl
  have hl2 : bx < WR.heap.size := b2.l
  have c49 : WR.cell? ⟨rf, 1, none⟩ = some (.slice A n cap) := h2.blk.c 1 _ rfl
  have f49 := h2.blk.f 1
  have hl3 := h2.blk.l
  have hbs := h2.bs
  have hrow2 := h2.rs
  rw [HNN.out] at hrow2
  have hb1 := h2.b1
  have HR2 := Lib.hid hrow2
  have T2 := Lib.hid t2
  have hnm : n + 1 ≤ maxLen := by unfold maxLen; omega
  have hnb : (n + 1) * 24 ≤ 140737488355328 := by omega
  have hBW : Below WR.heap.size WR (WR.alloc (.cells #[.int .u8 y0, .int .i64 y1, .int .i64 y2] 37)).drew := below_drew ((Below.refl _ _).alloc (Nat.le_refl _) _)
  have CW := Lib.hid ((hBW.cell (p := ⟨rf, 1, none⟩) hl3).trans c49)
  have FW := Lib.hid ((hBW.frozen (p := ⟨rf, 1, none⟩) hl3).trans f49)
  have BW := Lib.hid hBW
  clear hWR h2 t2 b2 HW HK HZ hrow2 hbxe hBW
  go_wp2_with fail
  go_region_law (refine step_append_own rfl (.tmp 18) (.tmp 20) 35 rfl base 37 i37 (.agg #[.int .u8 0, .int .i64 0, .int .i64 0]) 3 24 Try.underlying35 hi hz0 hz1 hz2 rfl (by decide) (.slice A n cap) n (vcs F.stk) (by simp [Act.eval, Act.put]) ((HR2.out.alloc _).drew) ⟨WR.heap.size, 0, none⟩ 1 1 [.int .u8 y0, .int .i64 y1, .int .i64 y2] (by simp [Act.eval, Act.put]) rfl (three_new WR (.int .u8 y0) (.int .i64 y1) (.int .i64 y2) 37) (three_one _ _ _) hnm hnb (by simp; omega) ?_; intro v' w' hown hgrow hor; obtain ⟨g', cap', rfl, hg1, hg2⟩ := World.ownsRow.form hown (by omega); have hfr : some rf ≠ (Value.slice A n cap).ownBlock := (by intro e; have := (HR2.out.lt rf e.symm).1; omega); have hbl' := hgrow.block rf (by simp; omega) hfr; have hc' := (World.cell?_of_block (a := ⟨rf, 1, none⟩) hbl').trans CW.out; have hf' := (World.frozen?_of_block (a := ⟨rf, 1, none⟩) hbl').trans FW.out; have HOWN := Lib.hid hown; have HGROW := Lib.hid hgrow; have HOR := Lib.hid hor; clear hown hgrow hor hbl')
  all_goals
    go_wp2_with fail
    go_ret
    refine ⟨rfl, HFIN.out _ w' g' cap' _ (T2.out.trans (BW.out.mono T2.out.size)) HOWN.out HGROW.out ?_ rfl⟩
    rcases HOR.out with e | e
    · exact .inl e.symm
    · refine .inr ?_
      have e : g' = (WR.alloc (.cells #[.int .u8 y0, .int .i64 y1, .int .i64 y2] 37)).drew.heap.size := by injection e
      omega
end
end Go.Proofs.Ythllfeogchbihaa
