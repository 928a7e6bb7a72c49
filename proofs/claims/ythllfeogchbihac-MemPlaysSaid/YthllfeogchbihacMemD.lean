/- Memories: Swap. -/
import Derived.Test.YthllfeogchbihacMemC
namespace Go.Proofs.Ythllfeogchbihac
open Go.RowKit
set_option linter.unusedSimpArgs false
set_option linter.unusedVariables false

section
variable {w W : World} {mg : Nat} {M : Me} {K : Nat → Prop}
def swapIs (M : Me) (p a : Int) : Bool := hasB M.pr.length p && hasB M.sl.length a
def swapB (M : Me) (p a : Int) (old : S7) : Bool := swapIs M p a && decide ((M.slot a).i = old.i)
def swapM (M : Me) (p a : Int) (old next : S7) : Me := if swapIs M p a then (if (M.slot a).i = old.i then M.put a.toNat next else M).tick p.toNat else M
def bool2 (a b : Bool) : Value := .tuple #[.bool a, .bool b]
/-- The boxes a swap makes. -/
theorem boxes5 (W : World) (v0 v1 : Value) (old next : S7) : ∃ X b0 b1 b2 b3 b4, ((((W.alloc (.cells #[v0] 25)).alloc (.cells #[v1] 3)).alloc (.cells #[.int .i64 old.i, .int .i64 old.p, .int .i64 old.s, .int .u8 old.k, .int .i64 old.m, .slice none 0 0, .slice none 0 0] 47)).alloc (.cells #[.int .i64 next.i, .int .i64 next.p, .int .i64 next.s, .int .u8 next.k, .int .i64 next.m, .slice none 0 0, .slice none 0 0] 47)).alloc (.cells #[.bool false] 4) = X ∧
    W.heap.size = b0 ∧ W.heap.size + 1 = b1 ∧ W.heap.size + 1 + 1 = b2 ∧ W.heap.size + 1 + 1 + 1 = b3 ∧ W.heap.size + 1 + 1 + 1 + 1 = b4 ∧ Below W.heap.size W X ∧ Blk X b0 [v0] ∧ Blk X b1 [v1] ∧ Blk X b2 old.cs ∧ Blk X b3 next.cs ∧ Blk X b4 [.bool false] := by
  refine ⟨_, _, _, _, _, _, rfl, rfl, rfl, rfl, rfl, rfl, ?_, ?_, ?_, ?_, ?_, ?_⟩
  · exact (((((Below.refl _ _).alloc (Nat.le_refl _) _).alloc (by simp) _).alloc (by simp <;> omega) _).alloc (by simp <;> omega) _).alloc (by simp <;> omega) _
  · exact ((((Blk.new W #[v0] 25).alloc _).alloc _).alloc _).alloc _
  · have := (((Blk.new (W.alloc (.cells #[v0] 25)) #[v1] 3).alloc (.cells #[.int .i64 old.i, .int .i64 old.p, .int .i64 old.s, .int .u8 old.k, .int .i64 old.m, .slice none 0 0, .slice none 0 0] 47)).alloc (.cells #[.int .i64 next.i, .int .i64 next.p, .int .i64 next.s, .int .u8 next.k, .int .i64 next.m, .slice none 0 0, .slice none 0 0] 47)).alloc (.cells #[.bool false] 4)
    simpa using this
  · have := ((Blk.new ((W.alloc (.cells #[v0] 25)).alloc (.cells #[v1] 3)) #[.int .i64 old.i, .int .i64 old.p, .int .i64 old.s, .int .u8 old.k, .int .i64 old.m, .slice none 0 0, .slice none 0 0] 47).alloc (.cells #[.int .i64 next.i, .int .i64 next.p, .int .i64 next.s, .int .u8 next.k, .int .i64 next.m, .slice none 0 0, .slice none 0 0] 47)).alloc (.cells #[.bool false] 4)
    simpa [S7.cs] using this
  · have := (Blk.new (((W.alloc (.cells #[v0] 25)).alloc (.cells #[v1] 3)).alloc (.cells #[.int .i64 old.i, .int .i64 old.p, .int .i64 old.s, .int .u8 old.k, .int .i64 old.m, .slice none 0 0, .slice none 0 0] 47)) #[.int .i64 next.i, .int .i64 next.p, .int .i64 next.s, .int .u8 next.k, .int .i64 next.m, .slice none 0 0, .slice none 0 0] 47).alloc (.cells #[.bool false] 4)
    simpa [S7.cs] using this
  · have := Blk.new ((((W.alloc (.cells #[v0] 25)).alloc (.cells #[v1] 3)).alloc (.cells #[.int .i64 old.i, .int .i64 old.p, .int .i64 old.s, .int .u8 old.k, .int .i64 old.m, .slice none 0 0, .slice none 0 0] 47)).alloc (.cells #[.int .i64 next.i, .int .i64 next.p, .int .i64 next.s, .int .u8 next.k, .int .i64 next.m, .slice none 0 0, .slice none 0 0] 47)) #[.bool false] 4
    simpa using this

/-- Behind an access: the step counted, the answer's own cell written once more. -/
theorem acc_fin {pg sg : Nat} (h : MO w W mg M K) (h0 : MemAt W mg pg sg M) (g1 : w.heap.size ≤ pg) (g2 : w.heap.size ≤ sg) (g3 : ∀ b, K b → b < W.heap.size ∧ ¬ MF mg pg sg b) {Y W1 : World} (hb : Below W.heap.size W Y) {b4 : Nat} (hb4 : W.heap.size ≤ b4) (n4 : ¬ MF mg pg sg b4)
    (t : Touch (fun b => b = b4 ∨ MF mg pg sg b) Y W1) {M1 : Me} (hm : MemAt W1 mg pg sg M1) {i : Nat} (hi : i < M1.pr.length) (j : Nat) (v : Value) :
    MOk w W mg (M1.tick i) K ((W1.setCell ⟨pg, i * 7 + 6, none⟩ (.int .i64 (wrap64 ((M1.pr[i]).st + 1)))).setCell ⟨b4, j, none⟩ v) := by
  have t1 : Touch (MF mg pg sg) W W1 := (Touch.of_below hb (Nat.le_refl _) _).trans' t (fun b hb2 e => by
    rcases e with rfl | e
    · omega
    · exact e)
  have t2 : Touch (MF mg pg sg) W (W1.setCell ⟨pg, i * 7 + 6, none⟩ (.int .i64 (wrap64 ((M1.pr[i]).st + 1)))) := t1.setCell _ _ (fun _ => .inr (.inl rfl))
  have t3 := t2.setCell ⟨b4, j, none⟩ v (fun e => by have e : b4 < W.heap.size := e; omega)
  have t4 := (Touch.refl (fun b => b = b4) (W1.setCell ⟨pg, i * 7 + 6, none⟩ (.int .i64 (wrap64 ((M1.pr[i]).st + 1))))).setCell ⟨b4, j, none⟩ v (fun _ => rfl)
  exact h.step h0 g1 g2 g3 t3 ((hm.tick hi).touch t4 (fun b hb e => n4 (e ▸ hb)))
theorem callF31 (cap : Array Value) (w : World) : (callFunc 31 cap).run Try.prog w = .ok (.enter 31 cap) w := by
  simp [go_sem]
set_option maxRecDepth 100000 in
set_option maxHeartbeats 2000000 in
theorem swap_at (h : MO w W mg M K) (p a : Int) (old next : S7) : Calls Try.prog 10 #[.pointer (some ⟨mg, 0, none⟩), .int .i64 p, .int .i64 a, sagg old, sagg next] W fun e W' => e = .returned (bool2 (swapB M p a old) (swapIs M p a)) ∧ MOk w W mg (swapM M p a old next) K W' := by
  obtain ⟨⟨pg, sg, h0, g1, g2, g3⟩, -, -⟩ := id h
  obtain ⟨X, b0, b1, b2, b3, b4, hX, e0, e1, e2, e3, e4, hbX, p0, p1, p2, p3, p4⟩ := boxes5 W (.pointer (some ⟨mg, 0, none⟩)) (.int .i64 a) old next
  have hmf : ∀ (fn : Fn) (first cap : Array Value) (w : World), (Instr.makeFunc fn first cap).run Try.prog w = .ok (.func fn first cap) w := fun _ _ _ _ => rfl
  have hft := h0.foot
  have H := Lib.hid h
  have H0 := Lib.hid (h0.below (below_drew hbX))
  have HG := Lib.hid (And.intro g1 (And.intro g2 g3))
  have HBX := Lib.hid hbX
  have c0 := p0.c 0 _ rfl
  have c1 := p1.c 0 _ rfl
  have c4 := p4.c 0 _ rfl
  have l0 := p0.l
  have l1 := p1.l
  have l4 := p4.l
  have hin : SwapIn X.drew b0 b1 b2 b3 b4 mg a old next := ⟨p0.drew, p1.drew, p2.drew, p3.drew, p4.drew⟩
  have HIN := Lib.hid hin
  have HN : Hid (b0 ≠ b4 ∧ b1 ≠ b4 ∧ b2 ≠ b4 ∧ b3 ≠ b4 ∧ ¬ MF mg pg sg b4) := Lib.hid ⟨by omega, by omega, by omega, by omega, fun e => by have := hft _ e; omega⟩
  cases his : swapIs M p a with
  | false =>
    have HP := Lib.hid (place_at H0.out a)
    have HMK := Lib.hid (make_no (some ⟨mg, 0, none⟩) p (hasB M.sl.length a) (.func (.func 31) #[] #[.pointer (some ⟨b0, 0, none⟩), .pointer (some ⟨b1, 0, none⟩), .pointer (some ⟨b2, 0, none⟩), .pointer (some ⟨b4, 0, none⟩), .pointer (some ⟨b3, 0, none⟩)]) (has_at H0.out p) (by unfold swapIs at his; exact his))
    have e8 : swapB M p a old = false := by unfold swapB; rw [his]; rfl
    have e9 : swapM M p a old next = M := by unfold swapM; rw [his]; rfl
    rw [e8, e9]
    have hb9 : Below W.heap.size W (X.drew.setCell ⟨b4, 0, none⟩ (.bool false)) := Blk.below_set (below_drew hbX) (by omega) _ _
    have HFIN := Lib.hid (h.ok hb9)
    have s4 := hin.p4.c 0 _ rfl
    have s4f := hin.p4.f 0
    have s4l := hin.p4.l
    have r4 : (X.setCell ⟨b4, 0, none⟩ (.bool false)).cell? ⟨b4, 0, none⟩ = some (.bool false) := World.cell?_setCell_same' _ _ _ (by rw [c4]; rfl)
    clear hin p0 p1 p2 p3 p4 hft h0 h g1 g2 g3 his hbX hb9 e8 e9
    unfold bool2 sagg
    have HE := Lib.hid (And.intro hX (And.intro e0 (And.intro e1 (And.intro e2 (And.intro e3 e4)))))
    clear hX e0 e1 e2 e3 e4
    go_enter Try.func10, Try.ntmps10
    go_wp2_with fail
    rw [HE.out.1, HE.out.2.2.2.2.2, HE.out.2.2.2.2.1, HE.out.2.2.2.1, HE.out.2.2.1, HE.out.2.1]
    clear HE
    go_region_held3 (fun w' => w'.cell? ⟨b0, 0, none⟩ = some (.pointer (some ⟨mg, 0, none⟩)) ∧ w'.cell? ⟨b1, 0, none⟩ = some (.int .i64 a))
      ((first | (refine ⟨?_, ?_⟩ <;> simp [*]) | fail))
      (first
        | (go_at_call 30; refine HP.out.mono ?_; rintro e w4 ⟨rfl, rfl⟩)
        | (go_at_call 29; refine HMK.out.mono ?_; rintro e w5 ⟨rfl, rfl⟩)
        | fail)
    go_wp2_with fail
    all_goals (refine bodyPost_ret (v := .tuple #[.bool false, .bool false]) ?_ rfl ⟨rfl, HFIN.out⟩; simp [results, Try.results10, go_sem, r4])
  | true =>
    have his2 := his
    unfold swapIs at his2
    rw [Bool.and_eq_true] at his2
    obtain ⟨i, rfl, hi⟩ := hasB_yes his2.1
    obtain ⟨j, rfl, hj⟩ := hasB_yes his2.2
    have HP := Lib.hid (place_at H0.out j)
    rw [hasB_nat hj] at HP
    obtain ⟨Y, hY⟩ : ∃ Y, X.drew.alloc (.cells #[.pointer (some ⟨pg, i * 7, none⟩), .func (.func 31) #[] #[.pointer (some ⟨b0, 0, none⟩), .pointer (some ⟨b1, 0, none⟩), .pointer (some ⟨b2, 0, none⟩), .pointer (some ⟨b4, 0, none⟩), .pointer (some ⟨b3, 0, none⟩)]] 96) = Y := ⟨_, rfl⟩
    have hbY : Below X.drew.heap.size X.drew Y := by rw [← hY]; exact (Below.refl _ _).alloc (Nat.le_refl _) _
    have hacc : Blk Y X.drew.heap.size [.pointer (some ⟨pg, i * 7, none⟩), .func (.func 31) #[] #[.pointer (some ⟨b0, 0, none⟩), .pointer (some ⟨b1, 0, none⟩), .pointer (some ⟨b2, 0, none⟩), .pointer (some ⟨b4, 0, none⟩), .pointer (some ⟨b3, 0, none⟩)]] := by rw [← hY]; exact Blk.new _ _ _
    have hcc := swap_c (H0.out.below hbY) hj (old := old) (next := next) (b0 := b0) (b1 := b1) (b2 := b2) (b3 := b3) (b4 := b4) ⟨hin.p0.below hbY, hin.p1.below hbY, hin.p2.below hbY, hin.p3.below hbY, hin.p4.below hbY⟩ HN.out.2.2.2.2 HN.out.1 HN.out.2.1 HN.out.2.2.1 HN.out.2.2.2.1
    rw [← Me.slot_yes hj] at hcc
    obtain ⟨x, hx⟩ : ∃ x, M.slot j = x := ⟨_, rfl⟩
    have HRES : Hid (swapB M i j old = decide (x.i = old.i) ∧ swapM M i j old next = (if x.i = old.i then M.put j next else M).tick i) := Lib.hid (by
      refine ⟨?_, ?_⟩
      · unfold swapB; rw [his, Bool.true_and, hx]
      · unfold swapM; rw [if_pos his, hx, Int.toNat_natCast, Int.toNat_natCast])
    rw [HRES.out.1, HRES.out.2]
    rw [hx] at hcc
    obtain ⟨q, hq⟩ : ∃ q, decide (x.i = old.i) = q := ⟨_, rfl⟩
    obtain ⟨M1, hM1⟩ : ∃ M1, (if x.i = old.i then M.put j next else M) = M1 := ⟨_, rfl⟩
    have hlen : M1.pr.length = M.pr.length := by rw [← hM1]; split <;> rfl
    rw [hq, hM1] at hcc
    rw [hq, hM1]
    have hl4 := hin.p4.l
    have hmk := make_yes (Rr := fun M' W1 => M' = M1 ∧ Touch (fun b => b = b4 ∨ MF mg pg sg b) Y W1 ∧ Blk W1 b4 [.bool q]) H0.out hi 31 #[.pointer (some ⟨b0, 0, none⟩), .pointer (some ⟨b1, 0, none⟩), .pointer (some ⟨b2, 0, none⟩), .pointer (some ⟨b4, 0, none⟩), .pointer (some ⟨b3, 0, none⟩)] (callF31 _) (by
      rw [hY]
      refine hcc.mono ?_
      rintro e Y' ⟨rfl, t, hb4, hm⟩
      refine ⟨rfl, M1, hm, hlen, hacc.touch t (fun e => ?_), rfl, t, hb4⟩
      rcases e with e | e
      · omega
      · have := H0.out.foot _ e; omega)
    have HMK := Lib.hid hmk
    have hbWY : Below W.heap.size W Y := (below_drew hbX).trans (hbY.mono hbX.size)
    have hb4W : W.heap.size ≤ b4 := by omega
    have HFIN : Hid (∀ W1, Touch (fun b => b = b4 ∨ MF mg pg sg b) Y W1 → MemAt W1 mg pg sg M1 → ∀ hi : i < M1.pr.length, MOk w W mg (M1.tick i) K ((W1.setCell ⟨pg, i * 7 + 6, none⟩ (.int .i64 (wrap64 ((M1.pr[i]).st + 1)))).setCell ⟨b4, 0, none⟩ (.bool q))) :=
      Lib.hid (fun W1 t hm hi => acc_fin h h0 g1 g2 g3 hbWY hb4W HN.out.2.2.2.2 t hm hi 0 (.bool q))
    have HPG : Hid (pg ≠ b4) := Lib.hid (fun e => HN.out.2.2.2.2 (.inr (.inl e.symm)))
    have HKP : Hid (∀ W1, Touch (fun b => b = b4 ∨ MF mg pg sg b) Y W1 → ∀ o v, (W1.setCell ⟨pg, o, none⟩ v).cell? ⟨b0, 0, none⟩ = some (.pointer (some ⟨mg, 0, none⟩)) ∧ (W1.setCell ⟨pg, o, none⟩ v).cell? ⟨b1, 0, none⟩ = some (.int .i64 j)) := Lib.hid (fun W1 t o v => by
      have m0 : ¬ MF mg pg sg b0 := fun e => by have := hft _ e; omega
      have m1 : ¬ MF mg pg sg b1 := fun e => by have := hft _ e; omega
      have q0 : ¬ (b0 = b4 ∨ MF mg pg sg b0) := fun e => by
        rcases e with e | e
        · omega
        · exact m0 e
      have q1 : ¬ (b1 = b4 ∨ MF mg pg sg b1) := fun e => by
        rcases e with e | e
        · omega
        · exact m1 e
      exact ⟨(((hin.p0.below hbY).touch t q0).other (b' := pg) (fun e => m0 (.inr (.inl e.symm))) o v).c 0 _ rfl, (((hin.p1.below hbY).touch t q1).other (b' := pg) (fun e => m1 (.inr (.inl e.symm))) o v).c 0 _ rfl⟩)
    clear hcc hmk hacc hbY hbWY hlen hx hq hM1 hY hin p0 p1 p2 p3 p4 hft h0 h g1 g2 g3 his his2 hi hj hb4W hbX
    unfold bool2 sagg
    have HE := Lib.hid (And.intro hX (And.intro e0 (And.intro e1 (And.intro e2 (And.intro e3 e4)))))
    clear hX e0 e1 e2 e3 e4
    go_enter Try.func10, Try.ntmps10
    go_wp2_with fail
    rw [HE.out.1, HE.out.2.2.2.2.2, HE.out.2.2.2.2.1, HE.out.2.2.2.1, HE.out.2.2.1, HE.out.2.1]
    clear HE
    go_region_held3 (fun w' => w'.cell? ⟨b0, 0, none⟩ = some (.pointer (some ⟨mg, 0, none⟩)) ∧ w'.cell? ⟨b1, 0, none⟩ = some (.int .i64 j))
      ((first | (with_reducible exact hkeep) | (refine ⟨?_, ?_⟩ <;> simp [*]) | fail))
      (first
        | (go_at_call 30; refine HP.out.mono ?_; rintro e w4 ⟨rfl, rfl⟩)
        | (go_at_call 29; refine HMK.out.mono ?_; rintro e w5 ⟨rfl, M', W1, hi5, ⟨rfl, ht5, hb5⟩, hm5, rfl⟩
           have HF5 := Lib.hid (HFIN.out _ ht5 hm5 hi5)
           have hb6 := hb5.other (b' := pg) HPG.out (i * 7 + 6) (.int .i64 (wrap64 ((M'.pr[i]).st + 1)))
           have hkeep := HKP.out _ ht5 (i * 7 + 6) (.int .i64 (wrap64 ((M'.pr[i]).st + 1)))
           have s4 := hb6.c 0 _ rfl
           have r4 : ((W1.setCell ⟨pg, i * 7 + 6, none⟩ (.int .i64 (wrap64 ((M'.pr[i]).st + 1)))).setCell ⟨b4, 0, none⟩ (.bool q)).cell? ⟨b4, 0, none⟩ = some (.bool q) := World.cell?_setCell_same' _ _ _ (by rw [s4]; rfl)
           have s4f := hb6.f 0
           have s4l := hb6.l
           clear ht5 hb5 hm5 hb6)
        | fail)
    go_wp2_with fail
    all_goals (refine bodyPost_ret (v := .tuple #[.bool q, .bool true]) ?_ rfl ⟨rfl, HF5.out⟩; simp [results, Try.results10, go_sem, r4])
end
end Go.Proofs.Ythllfeogchbihac
