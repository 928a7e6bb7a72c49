/- Memories: Snapshot, SwapSnapshot, each by one contract. -/
import Derived.Test.YthllfeogchbihacMemI
namespace Go.Proofs.Ythllfeogchbihac
open Go.RowKit
set_option linter.unusedSimpArgs false
set_option linter.unusedVariables false
section
variable {w W : World} {mg : Nat} {M : Me} {K : Nat → Prop}
theorem snap_res {x : N7} (Z : World) (t : Array Value) (b1 : Nat) (b : Bool) (h6 : t[4]? = some (.pointer (some ⟨b1, 0, none⟩))) (h7 : t[5]? = some (.bool b)) (r0 : Z.cell? ⟨b1, 0, none⟩ = some (.int .i64 x.i)) (r1 : Z.cell? ⟨b1, 1, none⟩ = some (.slice none 0 0)) (r2 : Z.cell? ⟨b1, 2, none⟩ = some (.slice none 0 0)) (r3 : Z.cell? ⟨b1, 3, none⟩ = some (.slice none 0 0)) (r4 : Z.cell? ⟨b1, 4, none⟩ = some (.int .i64 0)) (r5 : Z.cell? ⟨b1, 5, none⟩ = some (.slice none 0 0)) (r6 : Z.cell? ⟨b1, 6, none⟩ = some (.slice x.A x.n x.c)) : (results Try.f12 t).run Try.prog Z = .ok (.tuple #[nagg x, .bool b]) Z := by
  unfold nagg
  simp [results, Try.results12, go_sem, h6, h7, r0, r1, r2, r3, r4, r5, r6]
theorem swaps_res (Z : World) (t : Array Value) (b1 : Nat) (b c : Bool) (h6 : t[8]? = some (.pointer (some ⟨b1, 0, none⟩))) (h7 : t[9]? = some (.bool b)) (r0 : Z.cell? ⟨b1, 0, none⟩ = some (.bool c)) : (results Try.f11 t).run Try.prog Z = .ok (.tuple #[.bool c, .bool b]) Z := by
  simp [results, Try.results11, go_sem, h6, h7, r0]
set_option maxRecDepth 100000 in
set_option maxHeartbeats 2000000 in
theorem snap_at (h : MO w W mg M K) (p : Int) : Calls Try.prog 12 #[.pointer (some ⟨mg, 0, none⟩), .int .i64 p] W fun e W' => e = .returned (.tuple #[nagg (if hasB M.pr.length p then M.sn else zn), .bool (hasB M.pr.length p)]) ∧ MOk w W mg (if hasB M.pr.length p = true then M.tick p.toNat else M) K W' := by
  obtain ⟨⟨pg, sg, h0, g1, g2, g3⟩, -, -⟩ := id h
  obtain ⟨X, b0, b1, hX, e0, e1, hbX, p0, p1⟩ := boxes2 W (.pointer (some ⟨mg, 0, none⟩)) #[.int .i64 0, .slice none 0 0, .slice none 0 0, .slice none 0 0, .int .i64 0, .slice none 0 0, .slice none 0 0] 50
  have hmf : ∀ (fn : Fn) (first cap : Array Value) (w : World), (Instr.makeFunc fn first cap).run Try.prog w = .ok (.func fn first cap) w := fun _ _ _ _ => rfl
  have hft := h0.foot
  have H0 := Lib.hid (h0.below hbX)
  have c0 := p0.c 0 _ rfl
  have l0 := p0.l
  have l1 := p1.l
  have HN : Hid (b0 ≠ b1 ∧ ¬ MF mg pg sg b1) := Lib.hid ⟨by omega, fun e => by have := hft _ e; omega⟩
  cases his : hasB M.pr.length p with
  | false =>
    have HMK := Lib.hid (make_no (some ⟨mg, 0, none⟩) p true (.func (.func 33) #[] #[.pointer (some ⟨b0, 0, none⟩), .pointer (some ⟨b1, 0, none⟩)]) (has_at H0.out p) (by rw [his]; rfl))
    rw [if_neg (by decide), if_neg (by decide)]
    have hb9 : Below W.heap.size W (((((((X.setCell ⟨b1, 0, none⟩ (.int .i64 0)).setCell ⟨b1, 1, none⟩ (.slice none 0 0)).setCell ⟨b1, 2, none⟩ (.slice none 0 0)).setCell ⟨b1, 3, none⟩ (.slice none 0 0)).setCell ⟨b1, 4, none⟩ (.int .i64 0)).setCell ⟨b1, 5, none⟩ (.slice none 0 0)).setCell ⟨b1, 6, none⟩ (.slice none 0 0)) := hbX.trans ((((((((((Touch.refl (fun b => b = b1) X).setCell ⟨b1, 0, none⟩ (.int .i64 0) (fun _ => rfl)).setCell ⟨b1, 1, none⟩ (.slice none 0 0) (fun _ => rfl)).setCell ⟨b1, 2, none⟩ (.slice none 0 0) (fun _ => rfl)).setCell ⟨b1, 3, none⟩ (.slice none 0 0) (fun _ => rfl)).setCell ⟨b1, 4, none⟩ (.int .i64 0) (fun _ => rfl)).setCell ⟨b1, 5, none⟩ (.slice none 0 0) (fun _ => rfl)).setCell ⟨b1, 6, none⟩ (.slice none 0 0) (fun _ => rfl))).below (n := W.heap.size) (by have := hbX.size; exact this) (fun b e => by rw [e]; omega))
    have HFIN := Lib.hid (h.ok hb9)
    have bz := (((((((p1.set (j := 0) rfl (.int .i64 0)).set (j := 1) rfl (.slice none 0 0)).set (j := 2) rfl (.slice none 0 0)).set (j := 3) rfl (.slice none 0 0)).set (j := 4) rfl (.int .i64 0)).set (j := 5) rfl (.slice none 0 0)).set (j := 6) rfl (.slice none 0 0))
    have r0 := bz.c 0 _ rfl
    have r1 := bz.c 1 _ rfl
    have r2 := bz.c 2 _ rfl
    have r3 := bz.c 3 _ rfl
    have r4 := bz.c 4 _ rfl
    have r5 := bz.c 5 _ rfl
    have r6 := bz.c 6 _ rfl
    have s0 := p1.c 0 _ rfl
    have sf0 := p1.f 0
    have s1 := p1.c 1 _ rfl
    have sf1 := p1.f 1
    have s2 := p1.c 2 _ rfl
    have sf2 := p1.f 2
    have s3 := p1.c 3 _ rfl
    have sf3 := p1.f 3
    have s4 := p1.c 4 _ rfl
    have sf4 := p1.f 4
    have s5 := p1.c 5 _ rfl
    have sf5 := p1.f 5
    have s6 := p1.c 6 _ rfl
    have sf6 := p1.f 6
    clear p0 p1 hft h0 h g1 g2 g3 his hbX hb9 bz
    have HE := Lib.hid (And.intro hX (And.intro e0 e1))
    clear hX e0 e1
    go_enter Try.func12, Try.ntmps12
    go_wp2_with fail
    rw [HE.out.1, HE.out.2.2, HE.out.2.1]
    clear HE
    go_wp2_with fail
    refine HMK.out.mono ?_
    rintro e w5 ⟨rfl, rfl⟩
    go_wp2_with fail
    all_goals (refine bodyPost_ret (v := .tuple #[nagg zn, .bool false]) (snap_res (x := zn) _ _ _ _ rfl rfl r0 r1 r2 r3 r4 r5 r6) rfl ⟨rfl, HFIN.out⟩)
  | true =>
    obtain ⟨i, rfl, hi⟩ := hasB_yes his
    rw [if_pos rfl, if_pos rfl, Int.toNat_natCast]
    obtain ⟨Y, hY⟩ : ∃ Y, X.alloc (.cells #[.pointer (some ⟨pg, i * 7, none⟩), .func (.func 33) #[] #[.pointer (some ⟨b0, 0, none⟩), .pointer (some ⟨b1, 0, none⟩)]] 96) = Y := ⟨_, rfl⟩
    have hbY : Below X.heap.size X Y := by rw [← hY]; exact (Below.refl _ _).alloc (Nat.le_refl _) _
    have hacc : Blk Y X.heap.size [.pointer (some ⟨pg, i * 7, none⟩), .func (.func 33) #[] #[.pointer (some ⟨b0, 0, none⟩), .pointer (some ⟨b1, 0, none⟩)]] := by rw [← hY]; exact Blk.new _ _ _
    have hcc := snap_c (H0.out.below hbY) (p0.below hbY) (p1.below hbY) HN.out.1 (fun e => HN.out.2 (.inl e.symm))
    obtain ⟨x, hx⟩ : ∃ x, M.sn = x := ⟨_, rfl⟩
    rw [hx] at hcc ⊢
    have hl4 := p1.l
    have hmk := make_yes (Rr := fun M' W1 => M' = M ∧ Touch (fun b => b = b1) Y W1 ∧ Blk W1 b1 x.cs) H0.out hi 33 #[.pointer (some ⟨b0, 0, none⟩), .pointer (some ⟨b1, 0, none⟩)] (callF33 _) (by
      rw [hY]
      refine hcc.mono ?_
      rintro e Y' ⟨rfl, t, hb4⟩
      exact ⟨rfl, M, (H0.out.below hbY).touch t (fun b hb e => HN.out.2 (e ▸ hb)), rfl, hacc.touch t (fun e => by have e : X.heap.size = b1 := e; omega), rfl, t, hb4⟩)
    have HMK := Lib.hid hmk
    have hbWY : Below W.heap.size W Y := hbX.trans (hbY.mono hbX.size)
    have hb4W : W.heap.size ≤ b1 := by omega
    have HFIN : Hid (∀ W1, Touch (fun b => b = b1) Y W1 → MemAt W1 mg pg sg M → ∀ hi : i < M.pr.length, ∀ Z, Touch (fun b => b = b1) (W1.setCell ⟨pg, i * 7 + 6, none⟩ (.int .i64 (wrap64 ((M.pr[i]).st + 1)))) Z → MOk w W mg (M.tick i) K Z) :=
      Lib.hid (fun W1 t hm hi Z tz => acc_fin2 h h0 g1 g2 g3 hbWY hb4W HN.out.2 (t.mono (fun b _ e => .inl e)) hm hi tz)
    have HPG : Hid (pg ≠ b1) := Lib.hid (fun e => HN.out.2 (.inr (.inl e.symm)))
    clear hcc hmk hacc hbY hbWY hx hY p0 p1 hft h0 h g1 g2 g3 his hi hb4W hbX hl4
    have HE := Lib.hid (And.intro hX (And.intro e0 e1))
    clear hX e0 e1
    go_enter Try.func12, Try.ntmps12
    go_wp2_with fail
    rw [HE.out.1, HE.out.2.2, HE.out.2.1]
    clear HE
    go_wp2_with fail
    refine HMK.out.mono ?_
    rintro e w5 ⟨rfl, M', W1, hi5, ⟨rfl, ht5, hb5⟩, hm5, rfl⟩
    have hb6 := hb5.other (b' := pg) HPG.out (i * 7 + 6) (.int .i64 (wrap64 ((M'.pr[i]).st + 1)))
    have HF5 := Lib.hid (HFIN.out _ ht5 hm5 hi5 _ ((((((((Touch.refl (fun b => b = b1) (W1.setCell ⟨pg, i * 7 + 6, none⟩ (.int .i64 (wrap64 ((M'.pr[i]).st + 1))))).setCell ⟨b1, 0, none⟩ (.int .i64 x.i) (fun _ => rfl)).setCell ⟨b1, 1, none⟩ (.slice none 0 0) (fun _ => rfl)).setCell ⟨b1, 2, none⟩ (.slice none 0 0) (fun _ => rfl)).setCell ⟨b1, 3, none⟩ (.slice none 0 0) (fun _ => rfl)).setCell ⟨b1, 4, none⟩ (.int .i64 0) (fun _ => rfl)).setCell ⟨b1, 5, none⟩ (.slice none 0 0) (fun _ => rfl)).setCell ⟨b1, 6, none⟩ (.slice x.A x.n x.c) (fun _ => rfl)))
    have bz := (((((((hb6.set (j := 0) rfl (.int .i64 x.i)).set (j := 1) rfl (.slice none 0 0)).set (j := 2) rfl (.slice none 0 0)).set (j := 3) rfl (.slice none 0 0)).set (j := 4) rfl (.int .i64 0)).set (j := 5) rfl (.slice none 0 0)).set (j := 6) rfl (.slice x.A x.n x.c))
    have r0 := bz.c 0 _ rfl
    have r1 := bz.c 1 _ rfl
    have r2 := bz.c 2 _ rfl
    have r3 := bz.c 3 _ rfl
    have r4 := bz.c 4 _ rfl
    have r5 := bz.c 5 _ rfl
    have r6 := bz.c 6 _ rfl
    have s0 := hb6.c 0 _ rfl
    have sf0 := hb6.f 0
    have s1 := hb6.c 1 _ rfl
    have sf1 := hb6.f 1
    have s2 := hb6.c 2 _ rfl
    have sf2 := hb6.f 2
    have s3 := hb6.c 3 _ rfl
    have sf3 := hb6.f 3
    have s4 := hb6.c 4 _ rfl
    have sf4 := hb6.f 4
    have s5 := hb6.c 5 _ rfl
    have sf5 := hb6.f 5
    have s6 := hb6.c 6 _ rfl
    have sf6 := hb6.f 6
    have s4l := hb6.l
    clear ht5 hb5 hm5 hb6 bz
    go_wp2_with fail
    all_goals (refine bodyPost_ret (v := .tuple #[nagg x, .bool true]) (snap_res (x := x) _ _ _ _ rfl rfl r0 r1 r2 r3 r4 r5 r6) rfl ⟨rfl, HF5.out⟩)
def swapsM (M : Me) (p old : Int) (x : N7) : Me := if hasB M.pr.length p then (if M.sn.i = old then M.swp x else M).tick p.toNat else M
set_option maxRecDepth 100000 in
set_option maxHeartbeats 2000000 in
theorem swaps_at (h : MO w W mg M K) (p old : Int) (x : N7) : Calls Try.prog 11 #[.pointer (some ⟨mg, 0, none⟩), .int .i64 p, .int .i64 old, nagg x] W fun e W' => e = .returned (bool2 (hasB M.pr.length p && decide (M.sn.i = old)) (hasB M.pr.length p)) ∧ MOk w W mg (swapsM M p old x) K W' := by
  obtain ⟨⟨pg, sg, h0, g1, g2, g3⟩, -, -⟩ := id h
  obtain ⟨X, b0, b1, b2, b3, hX, e0, e1, e2, e3, hbX, p0, p1, p2, p3⟩ := boxes4 W (.pointer (some ⟨mg, 0, none⟩)) (.int .i64 old) #[.int .i64 x.i, .slice none 0 0, .slice none 0 0, .slice none 0 0, .int .i64 0, .slice none 0 0, .slice x.A x.n x.c] 50
  have hmf : ∀ (fn : Fn) (first cap : Array Value) (w : World), (Instr.makeFunc fn first cap).run Try.prog w = .ok (.func fn first cap) w := fun _ _ _ _ => rfl
  have hft := h0.foot
  have H0 := Lib.hid (h0.below hbX)
  have c0 := p0.c 0 _ rfl
  have s3 := p3.c 0 _ rfl
  have l0 := p0.l
  have l1 := p1.l
  have l2 := p2.l
  have l3 := p3.l
  have HN : Hid (b0 ≠ b3 ∧ b1 ≠ b3 ∧ b2 ≠ b3 ∧ ¬ MF mg pg sg b3 ∧ ¬ MF mg pg sg b0 ∧ ¬ MF mg pg sg b2) := Lib.hid ⟨by omega, by omega, by omega, fun e => by have := hft _ e; omega, fun e => by have := hft _ e; omega, fun e => by have := hft _ e; omega⟩
  cases his : hasB M.pr.length p with
  | false =>
    have HMK := Lib.hid (make_no (some ⟨mg, 0, none⟩) p true (.func (.func 32) #[] #[.pointer (some ⟨b0, 0, none⟩), .pointer (some ⟨b1, 0, none⟩), .pointer (some ⟨b3, 0, none⟩), .pointer (some ⟨b2, 0, none⟩)]) (has_at H0.out p) (by rw [his]; rfl))
    have e9 : swapsM M p old x = M := by unfold swapsM; rw [his]; rfl
    rw [e9, Bool.false_and]
    have hb9 : Below W.heap.size W (X.setCell ⟨b3, 0, none⟩ (.bool false)) := Blk.below_set hbX (by omega) _ _
    have HFIN := Lib.hid (h.ok hb9)
    have sf3 := p3.f 0
    have r3 : (X.setCell ⟨b3, 0, none⟩ (.bool false)).cell? ⟨b3, 0, none⟩ = some (.bool false) := World.cell?_setCell_same' _ _ _ (by rw [s3]; rfl)
    clear p0 p1 p2 p3 hft h0 h g1 g2 g3 his hbX hb9 e9
    unfold bool2 nagg
    have HE := Lib.hid (And.intro hX (And.intro e0 (And.intro e1 (And.intro e2 e3))))
    clear hX e0 e1 e2 e3
    go_enter Try.func11, Try.ntmps11
    go_wp2_with fail
    rw [HE.out.1, HE.out.2.2.2.2, HE.out.2.2.2.1, HE.out.2.2.1, HE.out.2.1]
    clear HE
    go_wp2_with fail
    refine HMK.out.mono ?_
    rintro e w5 ⟨rfl, rfl⟩
    go_wp2_with fail
    all_goals (refine bodyPost_ret (v := .tuple #[.bool false, .bool false]) (swaps_res _ _ _ _ _ rfl rfl r3) rfl ⟨rfl, HFIN.out⟩)
  | true =>
    obtain ⟨i, rfl, hi⟩ := hasB_yes his
    obtain ⟨Y, hY⟩ : ∃ Y, X.alloc (.cells #[.pointer (some ⟨pg, i * 7, none⟩), .func (.func 32) #[] #[.pointer (some ⟨b0, 0, none⟩), .pointer (some ⟨b1, 0, none⟩), .pointer (some ⟨b3, 0, none⟩), .pointer (some ⟨b2, 0, none⟩)]] 96) = Y := ⟨_, rfl⟩
    have hbY : Below X.heap.size X Y := by rw [← hY]; exact (Below.refl _ _).alloc (Nat.le_refl _) _
    have hacc : Blk Y X.heap.size [.pointer (some ⟨pg, i * 7, none⟩), .func (.func 32) #[] #[.pointer (some ⟨b0, 0, none⟩), .pointer (some ⟨b1, 0, none⟩), .pointer (some ⟨b3, 0, none⟩), .pointer (some ⟨b2, 0, none⟩)]] := by rw [← hY]; exact Blk.new _ _ _
    have hcc := swaps_c (x := x) (H0.out.below hbY) (p0.below hbY) (p1.below hbY) (p3.below hbY) (p2.below hbY) HN.out.2.2.2.1 HN.out.1 HN.out.2.1 HN.out.2.2.1 HN.out.2.2.2.2.1 HN.out.2.2.2.2.2
    have HRES : Hid (swapsM M i old x = (if M.sn.i = old then M.swp x else M).tick i) := Lib.hid (by unfold swapsM; rw [if_pos his, Int.toNat_natCast])
    rw [HRES.out, Bool.true_and]
    obtain ⟨q, hq⟩ : ∃ q, decide (M.sn.i = old) = q := ⟨_, rfl⟩
    obtain ⟨M1, hM1⟩ : ∃ M1, (if M.sn.i = old then M.swp x else M) = M1 := ⟨_, rfl⟩
    have hlen : M1.pr.length = M.pr.length := by rw [← hM1]; split <;> rfl
    rw [hq, hM1] at hcc
    rw [hq, hM1]
    have hl4 := p3.l
    have hmk := make_yes (Rr := fun M' W1 => M' = M1 ∧ Touch (fun b => b = b3 ∨ MF mg pg sg b) Y W1 ∧ Blk W1 b3 [.bool q]) H0.out hi 32 #[.pointer (some ⟨b0, 0, none⟩), .pointer (some ⟨b1, 0, none⟩), .pointer (some ⟨b3, 0, none⟩), .pointer (some ⟨b2, 0, none⟩)] (callF32 _) (by
      rw [hY]
      refine hcc.mono ?_
      rintro e Y' ⟨rfl, t, hb4, hm⟩
      refine ⟨rfl, M1, hm, hlen, hacc.touch t (fun e => ?_), rfl, t, hb4⟩
      rcases e with e | e
      · omega
      · have := H0.out.foot _ e; omega)
    have HMK := Lib.hid hmk
    have hbWY : Below W.heap.size W Y := hbX.trans (hbY.mono hbX.size)
    have hb4W : W.heap.size ≤ b3 := by omega
    have HFIN : Hid (∀ W1, Touch (fun b => b = b3 ∨ MF mg pg sg b) Y W1 → MemAt W1 mg pg sg M1 → ∀ hi : i < M1.pr.length, MOk w W mg (M1.tick i) K ((W1.setCell ⟨pg, i * 7 + 6, none⟩ (.int .i64 (wrap64 ((M1.pr[i]).st + 1)))).setCell ⟨b3, 0, none⟩ (.bool q))) :=
      Lib.hid (fun W1 t hm hi => acc_fin h h0 g1 g2 g3 hbWY hb4W HN.out.2.2.2.1 t hm hi 0 (.bool q))
    have HPG : Hid (pg ≠ b3) := Lib.hid (fun e => HN.out.2.2.2.1 (.inr (.inl e.symm)))
    clear hcc hmk hacc hbY hbWY hlen hq hM1 hY p0 p1 p2 p3 hft h0 h g1 g2 g3 his hi hb4W hbX s3 hl4
    unfold bool2 nagg
    have HE := Lib.hid (And.intro hX (And.intro e0 (And.intro e1 (And.intro e2 e3))))
    clear hX e0 e1 e2 e3
    go_enter Try.func11, Try.ntmps11
    go_wp2_with fail
    rw [HE.out.1, HE.out.2.2.2.2, HE.out.2.2.2.1, HE.out.2.2.1, HE.out.2.1]
    clear HE
    go_wp2_with fail
    refine HMK.out.mono ?_
    rintro e w5 ⟨rfl, M', W1, hi5, ⟨rfl, ht5, hb5⟩, hm5, rfl⟩
    have HF5 := Lib.hid (HFIN.out _ ht5 hm5 hi5)
    have hb6 := hb5.other (b' := pg) HPG.out (i * 7 + 6) (.int .i64 (wrap64 ((M'.pr[i]).st + 1)))
    have s4 := hb6.c 0 _ rfl
    have r4 : ((W1.setCell ⟨pg, i * 7 + 6, none⟩ (.int .i64 (wrap64 ((M'.pr[i]).st + 1)))).setCell ⟨b3, 0, none⟩ (.bool q)).cell? ⟨b3, 0, none⟩ = some (.bool q) := World.cell?_setCell_same' _ _ _ (by rw [s4]; rfl)
    have s4f := hb6.f 0
    have s4l := hb6.l
    clear ht5 hb5 hm5 hb6
    go_wp2_with fail
    all_goals (refine bodyPost_ret (v := .tuple #[.bool q, .bool true]) (swaps_res _ _ _ _ _ rfl rfl r4) rfl ⟨rfl, HF5.out⟩)
end
end Go.Proofs.Ythllfeogchbihac
