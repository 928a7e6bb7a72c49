/- Memories: the reads, each by one contract. -/
import Derived.Test.YthllfeogchbihacMemF
namespace Go.Proofs.Ythllfeogchbihac
open Go.RowKit
set_option linter.unusedSimpArgs false
set_option linter.unusedVariables false
section
variable {w W : World} {mg : Nat} {M : Me} {K : Nat → Prop}
theorem slot_at_res {u0 : Int} {u1 : Int} {u2 : Int} {u3 : Int} {u4 : Int} (Z : World) (t : Array Value) (b2 : Nat) (b : Bool) (h6 : t[6]? = some (.pointer (some ⟨b2, 0, none⟩))) (h7 : t[7]? = some (.bool b)) (r0 : Z.cell? ⟨b2, 0, none⟩ = some (.int .i64 u0)) (r1 : Z.cell? ⟨b2, 1, none⟩ = some (.int .i64 u1)) (r2 : Z.cell? ⟨b2, 2, none⟩ = some (.int .i64 u2)) (r3 : Z.cell? ⟨b2, 3, none⟩ = some (.int .u8 u3)) (r4 : Z.cell? ⟨b2, 4, none⟩ = some (.int .i64 u4)) (r5 : Z.cell? ⟨b2, 5, none⟩ = some (.slice none 0 0)) (r6 : Z.cell? ⟨b2, 6, none⟩ = some (.slice none 0 0)) : (results Try.f21 t).run Try.prog Z = .ok (.tuple #[.agg #[.int .i64 u0, .int .i64 u1, .int .i64 u2, .int .u8 u3, .int .i64 u4, .slice none 0 0, .slice none 0 0], .bool b]) Z := by
  simp [results, Try.results21, go_sem, h6, h7, r0, r1, r2, r3, r4, r5, r6]
theorem callF50 (cap : Array Value) (w : World) : (callFunc 50 cap).run Try.prog w = .ok (.enter 50 cap) w := by
  simp [go_sem]
set_option maxRecDepth 100000 in
set_option maxHeartbeats 8000000 in
theorem slot_at (h : MO w W mg M K) (p a : Int) : Calls Try.prog 21 #[.pointer (some ⟨mg, 0, none⟩), .int .i64 p, .int .i64 a] W fun e W' => e = .returned (.tuple #[sagg (if ((hasB M.pr.length p && hasB M.sl.length a) = true) then M.slot a else zs), .bool (hasB M.pr.length p && hasB M.sl.length a)]) ∧ MOk w W mg (if (hasB M.pr.length p && hasB M.sl.length a) = true then M.tick p.toNat else M) K W' := by
  obtain ⟨⟨pg, sg, h0, g1, g2, g3⟩, -, -⟩ := id h
  obtain ⟨X, b0, b1, b2, hX, e0, e1, e2, hbX, p0, p1, p2⟩ := boxes3 W (.pointer (some ⟨mg, 0, none⟩)) (.int .i64 a) #[.int .i64 0, .int .i64 0, .int .i64 0, .int .u8 0, .int .i64 0, .slice none 0 0, .slice none 0 0] 47
  have hmf : ∀ (fn : Fn) (first cap : Array Value) (w : World), (Instr.makeFunc fn first cap).run Try.prog w = .ok (.func fn first cap) w := fun _ _ _ _ => rfl
  have hft := h0.foot
  have H0 := Lib.hid (h0.below (below_drew hbX))
  have c0 := p0.c 0 _ rfl
  have c1 := p1.c 0 _ rfl
  have l0 := p0.l
  have l1 := p1.l
  have l2 := p2.l
  have hi0 := p0.drew
  have hi1 := p1.drew
  have hi2 := p2.drew
  have HN : Hid (b0 ≠ b2 ∧ b1 ≠ b2 ∧ ¬ MF mg pg sg b2) := Lib.hid ⟨by omega, by omega, fun e => by have := hft _ e; omega⟩
  cases his : (hasB M.pr.length p && hasB M.sl.length a) with
  | false =>
    have HP := Lib.hid (place_at H0.out a)
    have HMK := Lib.hid (make_no (some ⟨mg, 0, none⟩) p (hasB M.sl.length a) (.func (.func 50) #[] #[.pointer (some ⟨b0, 0, none⟩), .pointer (some ⟨b1, 0, none⟩), .pointer (some ⟨b2, 0, none⟩)]) (has_at H0.out p) his)
    rw [if_neg (by decide)]
    have hb9 : Below W.heap.size W ((((((((X.setCell ⟨b2, 0, none⟩ (.int .i64 0)).setCell ⟨b2, 1, none⟩ (.int .i64 0)).setCell ⟨b2, 2, none⟩ (.int .i64 0)).setCell ⟨b2, 3, none⟩ (.int .u8 0)).setCell ⟨b2, 4, none⟩ (.int .i64 0)).setCell ⟨b2, 5, none⟩ (.slice none 0 0)).setCell ⟨b2, 6, none⟩ (.slice none 0 0))).drew := below_drew (hbX.trans ((((((((((Touch.refl (fun b => b = b2) X).setCell ⟨b2, 0, none⟩ (.int .i64 0) (fun _ => rfl)).setCell ⟨b2, 1, none⟩ (.int .i64 0) (fun _ => rfl)).setCell ⟨b2, 2, none⟩ (.int .i64 0) (fun _ => rfl)).setCell ⟨b2, 3, none⟩ (.int .u8 0) (fun _ => rfl)).setCell ⟨b2, 4, none⟩ (.int .i64 0) (fun _ => rfl)).setCell ⟨b2, 5, none⟩ (.slice none 0 0) (fun _ => rfl)).setCell ⟨b2, 6, none⟩ (.slice none 0 0) (fun _ => rfl))).below (n := W.heap.size) (by have := hbX.size; exact this) (fun b e => by rw [e]; omega)))
    have HFIN := Lib.hid (h.ok hb9)
    have bz := (((((((p2.set (j := 0) rfl (.int .i64 0)).set (j := 1) rfl (.int .i64 0)).set (j := 2) rfl (.int .i64 0)).set (j := 3) rfl (.int .u8 0)).set (j := 4) rfl (.int .i64 0)).set (j := 5) rfl (.slice none 0 0)).set (j := 6) rfl (.slice none 0 0))
    have r0 := bz.drew.c 0 _ rfl
    have r1 := bz.drew.c 1 _ rfl
    have r2 := bz.drew.c 2 _ rfl
    have r3 := bz.drew.c 3 _ rfl
    have r4 := bz.drew.c 4 _ rfl
    have r5 := bz.drew.c 5 _ rfl
    have r6 := bz.drew.c 6 _ rfl
    have s0 := p2.c 0 _ rfl
    have sf0 := p2.f 0
    have s1 := p2.c 1 _ rfl
    have sf1 := p2.f 1
    have s2 := p2.c 2 _ rfl
    have sf2 := p2.f 2
    have s3 := p2.c 3 _ rfl
    have sf3 := p2.f 3
    have s4 := p2.c 4 _ rfl
    have sf4 := p2.f 4
    have s5 := p2.c 5 _ rfl
    have sf5 := p2.f 5
    have s6 := p2.c 6 _ rfl
    have sf6 := p2.f 6
    clear hi0 hi1 hi2 p0 p1 p2 hft h0 h g1 g2 g3 his hbX hb9 bz
    simp only [Bool.false_eq_true, if_false]
    unfold sagg zs
    have HE := Lib.hid (And.intro hX (And.intro e0 (And.intro e1 e2)))
    clear hX e0 e1 e2
    go_enter Try.func21, Try.ntmps21
    go_wp2_with fail
    rw [HE.out.1, HE.out.2.2.2, HE.out.2.2.1, HE.out.2.1]
    clear HE
    go_region_held3 (fun w' => w'.cell? ⟨b0, 0, none⟩ = some (.pointer (some ⟨mg, 0, none⟩)) ∧ w'.cell? ⟨b1, 0, none⟩ = some (.int .i64 a))
      ((first | (refine ⟨?_, ?_⟩ <;> simp [*]) | fail))
      (first
        | (go_at_call 30; refine HP.out.mono ?_; rintro e w4 ⟨rfl, rfl⟩)
        | (go_at_call 29; refine HMK.out.mono ?_; rintro e w5 ⟨rfl, rfl⟩)
        | fail)
    go_wp2_with fail
    all_goals (refine bodyPost_ret (v := .tuple #[.agg #[.int .i64 0, .int .i64 0, .int .i64 0, .int .u8 0, .int .i64 0, .slice none 0 0, .slice none 0 0], .bool false]) (slot_at_res _ _ _ _ rfl rfl r0 r1 r2 r3 r4 r5 r6) rfl ⟨rfl, HFIN.out⟩)
  | true =>
    have his2 := his
    rw [Bool.and_eq_true] at his2
    obtain ⟨i, rfl, hi⟩ := hasB_yes his2.1
    obtain ⟨j, rfl, hj⟩ := hasB_yes his2.2
    have HP := Lib.hid (place_at H0.out j)
    rw [hasB_nat hj] at HP
    rw [if_pos rfl, Int.toNat_natCast]
    simp only [if_true]
    obtain ⟨Y, hY⟩ : ∃ Y, X.drew.alloc (.cells #[.pointer (some ⟨pg, i * 7, none⟩), .func (.func 50) #[] #[.pointer (some ⟨b0, 0, none⟩), .pointer (some ⟨b1, 0, none⟩), .pointer (some ⟨b2, 0, none⟩)]] 96) = Y := ⟨_, rfl⟩
    have hbY : Below X.drew.heap.size X.drew Y := by rw [← hY]; exact (Below.refl _ _).alloc (Nat.le_refl _) _
    have hacc : Blk Y X.drew.heap.size [.pointer (some ⟨pg, i * 7, none⟩), .func (.func 50) #[] #[.pointer (some ⟨b0, 0, none⟩), .pointer (some ⟨b1, 0, none⟩), .pointer (some ⟨b2, 0, none⟩)]] := by rw [← hY]; exact Blk.new _ _ _
    have hcc := slot_c (H0.out.below hbY) hj (hi0.below hbY) (hi1.below hbY) (hi2.below hbY) HN.out.2.2 HN.out.1 HN.out.2.1
    rw [← Me.slot_yes hj] at hcc
    obtain ⟨x, hx⟩ : ∃ x, M.slot j = x := ⟨_, rfl⟩
    rw [hx] at hcc ⊢
    have hl4 := hi2.l
    have hmk := make_yes (Rr := fun M' W1 => M' = M ∧ Touch (fun b => b = b2) Y W1 ∧ Blk W1 b2 [.int .i64 x.i, .int .i64 x.p, .int .i64 x.s, .int .u8 x.k, .int .i64 x.m, .slice none 0 0, .slice none 0 0]) H0.out hi 50 #[.pointer (some ⟨b0, 0, none⟩), .pointer (some ⟨b1, 0, none⟩), .pointer (some ⟨b2, 0, none⟩)] (callF50 _) (by
      rw [hY]
      refine hcc.mono ?_
      rintro e Y' ⟨rfl, t, hb4⟩
      exact ⟨rfl, M, (H0.out.below hbY).touch t (fun b hb e => HN.out.2.2 (e ▸ hb)), rfl, hacc.touch t (fun e => by have e : X.drew.heap.size = b2 := e; omega), rfl, t, hb4⟩)
    have HMK := Lib.hid hmk
    have hbWY : Below W.heap.size W Y := (below_drew hbX).trans (hbY.mono hbX.size)
    have hb4W : W.heap.size ≤ b2 := by omega
    have HFIN : Hid (∀ W1, Touch (fun b => b = b2) Y W1 → MemAt W1 mg pg sg M → ∀ hi : i < M.pr.length, ∀ Z, Touch (fun b => b = b2) (W1.setCell ⟨pg, i * 7 + 6, none⟩ (.int .i64 (wrap64 ((M.pr[i]).st + 1)))) Z → MOk w W mg (M.tick i) K Z) :=
      Lib.hid (fun W1 t hm hi Z tz => acc_fin2 h h0 g1 g2 g3 hbWY hb4W HN.out.2.2 (t.mono (fun b _ e => .inl e)) hm hi tz)
    have HPG : Hid (pg ≠ b2) := Lib.hid (fun e => HN.out.2.2 (.inr (.inl e.symm)))
    have HKP : Hid (∀ W1, Touch (fun b => b = b2) Y W1 → ∀ o v, (W1.setCell ⟨pg, o, none⟩ v).cell? ⟨b0, 0, none⟩ = some (.pointer (some ⟨mg, 0, none⟩)) ∧ (W1.setCell ⟨pg, o, none⟩ v).cell? ⟨b1, 0, none⟩ = some (.int .i64 j)) := Lib.hid (fun W1 t o v => by
      have m0 : ¬ MF mg pg sg b0 := fun e => by have := hft _ e; omega
      have m1 : ¬ MF mg pg sg b1 := fun e => by have := hft _ e; omega
      exact ⟨(((hi0.below hbY).touch t HN.out.1).other (b' := pg) (fun e => m0 (.inr (.inl e.symm))) o v).c 0 _ rfl, (((hi1.below hbY).touch t HN.out.2.1).other (b' := pg) (fun e => m1 (.inr (.inl e.symm))) o v).c 0 _ rfl⟩)
    clear hcc hmk hacc hbY hbWY hx hY hi0 hi1 hi2 p0 p1 p2 hft h0 h g1 g2 g3 his his2 hi hj hb4W hbX hl4
    unfold sagg
    have HE := Lib.hid (And.intro hX (And.intro e0 (And.intro e1 e2)))
    clear hX e0 e1 e2
    go_enter Try.func21, Try.ntmps21
    go_wp2_with fail
    rw [HE.out.1, HE.out.2.2.2, HE.out.2.2.1, HE.out.2.1]
    clear HE
    go_region_held3 (fun w' => w'.cell? ⟨b0, 0, none⟩ = some (.pointer (some ⟨mg, 0, none⟩)) ∧ w'.cell? ⟨b1, 0, none⟩ = some (.int .i64 j))
      ((first | (with_reducible exact hkeep) | (refine ⟨?_, ?_⟩ <;> simp [*]) | fail))
      (first
        | (go_at_call 30; refine HP.out.mono ?_; rintro e w4 ⟨rfl, rfl⟩)
        | (go_at_call 29; refine HMK.out.mono ?_; rintro e w5 ⟨rfl, M', W1, hi5, ⟨rfl, ht5, hb5⟩, hm5, rfl⟩
           have hb6 := hb5.other (b' := pg) HPG.out (i * 7 + 6) (.int .i64 (wrap64 ((M'.pr[i]).st + 1)))
           have HF5 := Lib.hid (HFIN.out _ ht5 hm5 hi5 _ ((((((((Touch.refl (fun b => b = b2) (W1.setCell ⟨pg, i * 7 + 6, none⟩ (.int .i64 (wrap64 ((M'.pr[i]).st + 1))))).setCell ⟨b2, 0, none⟩ (.int .i64 x.i) (fun _ => rfl)).setCell ⟨b2, 1, none⟩ (.int .i64 x.p) (fun _ => rfl)).setCell ⟨b2, 2, none⟩ (.int .i64 x.s) (fun _ => rfl)).setCell ⟨b2, 3, none⟩ (.int .u8 x.k) (fun _ => rfl)).setCell ⟨b2, 4, none⟩ (.int .i64 x.m) (fun _ => rfl)).setCell ⟨b2, 5, none⟩ (.slice none 0 0) (fun _ => rfl)).setCell ⟨b2, 6, none⟩ (.slice none 0 0) (fun _ => rfl)))
           have hkeep := HKP.out _ ht5 (i * 7 + 6) (.int .i64 (wrap64 ((M'.pr[i]).st + 1)))
           have bz := (((((((hb6.set (j := 0) rfl (.int .i64 x.i)).set (j := 1) rfl (.int .i64 x.p)).set (j := 2) rfl (.int .i64 x.s)).set (j := 3) rfl (.int .u8 x.k)).set (j := 4) rfl (.int .i64 x.m)).set (j := 5) rfl (.slice none 0 0)).set (j := 6) rfl (.slice none 0 0))
           have r0 := bz.c 0 _ rfl
           have r1 := bz.c 1 _ rfl
           have r2 := bz.c 2 _ rfl
           have r3 := bz.c 3 _ rfl
           have r4 := bz.c 4 _ rfl
           have r5 := bz.c 5 _ rfl
           have r6 := bz.c 6 _ rfl
           have s0 := hb6.c 0 _ rfl
           have sf0 := hb6.f 0
           have s1 := hb6.c 1 _ rfl
           have sf1 := hb6.f 1
           have s2 := hb6.c 2 _ rfl
           have sf2 := hb6.f 2
           have s3 := hb6.c 3 _ rfl
           have sf3 := hb6.f 3
           have s4 := hb6.c 4 _ rfl
           have sf4 := hb6.f 4
           have s5 := hb6.c 5 _ rfl
           have sf5 := hb6.f 5
           have s6 := hb6.c 6 _ rfl
           have sf6 := hb6.f 6
           have s4l := hb6.l
           clear ht5 hb5 hm5 hb6 bz)
        | fail)
    go_wp2_with fail
    all_goals (refine bodyPost_ret (v := .tuple #[.agg #[.int .i64 x.i, .int .i64 x.p, .int .i64 x.s, .int .u8 x.k, .int .i64 x.m, .slice none 0 0, .slice none 0 0], .bool true]) (slot_at_res _ _ _ _ rfl rfl r0 r1 r2 r3 r4 r5 r6) rfl ⟨rfl, HF5.out⟩)
end
end Go.Proofs.Ythllfeogchbihac
