/- Memories: Snapshot, SwapSnapshot, Announce, Publish, each by one contract. -/
import Derived.Test.YthllfeogchbihacMemH
namespace Go.Proofs.Ythllfeogchbihac
open Go.RowKit
set_option linter.unusedSimpArgs false
set_option linter.unusedVariables false
section
variable {w W : World} {mg : Nat} {M : Me} {K : Nat → Prop}
theorem boxes2 (W : World) (v0 : Value) (zs : Array Value) (T : TypeId) : ∃ X b0 b1, (W.alloc (.cells #[v0] 25)).alloc (.cells zs T) = X ∧
    W.heap.size = b0 ∧ W.heap.size + 1 = b1 ∧ Below W.heap.size W X ∧ Blk X b0 [v0] ∧ Blk X b1 zs.toList := by
  refine ⟨_, _, _, rfl, rfl, rfl, ?_, ?_, ?_⟩
  · exact ((Below.refl _ _).alloc (Nat.le_refl _) _).alloc (by simp) _
  · exact (Blk.new W #[v0] 25).alloc _
  · have := Blk.new (W.alloc (.cells #[v0] 25)) zs T
    simpa using this
theorem boxes4 (W : World) (v0 v1 : Value) (zs : Array Value) (T : TypeId) : ∃ X b0 b1 b2 b3, (((W.alloc (.cells #[v0] 25)).alloc (.cells #[v1] 3)).alloc (.cells zs T)).alloc (.cells #[.bool false] 4) = X ∧
    W.heap.size = b0 ∧ W.heap.size + 1 = b1 ∧ W.heap.size + 1 + 1 = b2 ∧ W.heap.size + 1 + 1 + 1 = b3 ∧ Below W.heap.size W X ∧ Blk X b0 [v0] ∧ Blk X b1 [v1] ∧ Blk X b2 zs.toList ∧ Blk X b3 [.bool false] := by
  refine ⟨_, _, _, _, _, rfl, rfl, rfl, rfl, rfl, ?_, ?_, ?_, ?_, ?_⟩
  · exact ((((Below.refl _ _).alloc (Nat.le_refl _) _).alloc (by simp) _).alloc (by simp <;> omega) _).alloc (by simp <;> omega) _
  · exact (((Blk.new W #[v0] 25).alloc _).alloc _).alloc _
  · have := ((Blk.new (W.alloc (.cells #[v0] 25)) #[v1] 3).alloc (.cells zs T)).alloc (.cells #[.bool false] 4)
    simpa using this
  · have := (Blk.new ((W.alloc (.cells #[v0] 25)).alloc (.cells #[v1] 3)) zs T).alloc (.cells #[.bool false] 4)
    simpa using this
  · have := Blk.new (((W.alloc (.cells #[v0] 25)).alloc (.cells #[v1] 3)).alloc (.cells zs T)) #[.bool false] 4
    simpa using this
theorem callF33 (cap : Array Value) (w : World) : (callFunc 33 cap).run Try.prog w = .ok (.enter 33 cap) w := by
  simp [go_sem]
theorem callF32 (cap : Array Value) (w : World) : (callFunc 32 cap).run Try.prog w = .ok (.enter 32 cap) w := by
  simp [go_sem]
theorem callF51 (cap : Array Value) (w : World) : (callFunc 51 cap).run Try.prog w = .ok (.enter 51 cap) w := by
  simp [go_sem]
theorem callF52 (cap : Array Value) (w : World) : (callFunc 52 cap).run Try.prog w = .ok (.enter 52 cap) w := by
  simp [go_sem]
/-- Behind an access that writes nothing but the memory and blocks of its own. -/
theorem acc_fin3 {pg sg : Nat} (h : MO w W mg M K) (h0 : MemAt W mg pg sg M) (g1 : w.heap.size ≤ pg) (g2 : w.heap.size ≤ sg) (g3 : ∀ b, K b → b < W.heap.size ∧ ¬ MF mg pg sg b) {Y W1 : World} (hb : Below W.heap.size W Y)
    (t : Touch (fun b => MF mg pg sg b) Y W1) {M1 : Me} (hm : MemAt W1 mg pg sg M1) {i : Nat} (hi : i < M1.pr.length) :
    MOk w W mg (M1.tick i) K (W1.setCell ⟨pg, i * 7 + 6, none⟩ (.int .i64 (wrap64 ((M1.pr[i]).st + 1)))) := by
  have t1 : Touch (MF mg pg sg) W W1 := (Touch.of_below hb (Nat.le_refl _) _).trans' t (fun b hb2 e => e)
  have t2 : Touch (MF mg pg sg) W (W1.setCell ⟨pg, i * 7 + 6, none⟩ (.int .i64 (wrap64 ((M1.pr[i]).st + 1)))) := t1.setCell _ _ (fun _ => .inr (.inl rfl))
  exact h.step h0 g1 g2 g3 t2 (hm.tick hi)

set_option maxRecDepth 100000 in
set_option maxHeartbeats 2000000 in
theorem annn_at (h : MO w W mg M K) (p : Int) (x : P7) : Calls Try.prog 23 #[.pointer (some ⟨mg, 0, none⟩), .int .i64 p, aagg x] W fun e W' => e = .returned (.bool (hasB M.pr.length p)) ∧ MOk w W mg (if hasB M.pr.length p = true then (M.ann p.toNat x).tick p.toNat else M) K W' := by
  obtain ⟨⟨pg, sg, h0, g1, g2, g3⟩, -, -⟩ := id h
  obtain ⟨X, b0, b1, b2, hX, e0, e1, e2, hbX, p0, p1, p2⟩ := boxes3 W (.pointer (some ⟨mg, 0, none⟩)) (.int .i64 p) #[.int .i64 x.s, .int .u8 x.k, .int .i64 x.m, .slice none 0 0, .slice none 0 0] 68
  have hmf : ∀ (fn : Fn) (first cap : Array Value) (w : World), (Instr.makeFunc fn first cap).run Try.prog w = .ok (.func fn first cap) w := fun _ _ _ _ => rfl
  have H0 := Lib.hid (h0.below hbX)
  have c0 := p0.c 0 _ rfl
  have c1 := p1.c 0 _ rfl
  have l0 := p0.l
  have l1 := p1.l
  have l2 := p2.l
  cases his : hasB M.pr.length p with
  | false =>
    have HMK := Lib.hid (make_no (some ⟨mg, 0, none⟩) p true (.func (.func 51) #[] #[.pointer (some ⟨b2, 0, none⟩), .pointer (some ⟨b0, 0, none⟩), .pointer (some ⟨b1, 0, none⟩)]) (has_at H0.out p) (by rw [his]; rfl))
    rw [if_neg (by decide)]
    have HFIN := Lib.hid (h.ok hbX)
    clear p0 p1 p2 h0 h g1 g2 g3 his hbX
    unfold aagg
    have HE := Lib.hid (And.intro hX (And.intro e0 (And.intro e1 e2)))
    clear hX e0 e1 e2
    go_enter Try.func23, Try.ntmps23
    go_wp2_with fail
    rw [HE.out.1, HE.out.2.2.2, HE.out.2.2.1, HE.out.2.1]
    clear HE
    go_wp2_with fail
    refine HMK.out.mono ?_
    rintro e w5 ⟨rfl, rfl⟩
    go_wp2_with fail
    go_ret
    exact ⟨rfl, HFIN.out⟩
  | true =>
    obtain ⟨i, rfl, hi⟩ := hasB_yes his
    rw [if_pos rfl, Int.toNat_natCast]
    obtain ⟨Y, hY⟩ : ∃ Y, X.alloc (.cells #[.pointer (some ⟨pg, i * 7, none⟩), .func (.func 51) #[] #[.pointer (some ⟨b2, 0, none⟩), .pointer (some ⟨b0, 0, none⟩), .pointer (some ⟨b1, 0, none⟩)]] 96) = Y := ⟨_, rfl⟩
    have hbY : Below X.heap.size X Y := by rw [← hY]; exact (Below.refl _ _).alloc (Nat.le_refl _) _
    have hacc : Blk Y X.heap.size [.pointer (some ⟨pg, i * 7, none⟩), .func (.func 51) #[] #[.pointer (some ⟨b2, 0, none⟩), .pointer (some ⟨b0, 0, none⟩), .pointer (some ⟨b1, 0, none⟩)]] := by rw [← hY]; exact Blk.new _ _ _
    have hcc := ann_c (x := x) (H0.out.below hbY) hi (p0.below hbY) (p1.below hbY) (p2.below hbY)
    obtain ⟨M1, hM1⟩ : ∃ M1, M.ann i x = M1 := ⟨_, rfl⟩
    have hlen : M1.pr.length = M.pr.length := by rw [← hM1]; exact List.length_set
    rw [hM1] at hcc ⊢
    have hmk := make_yes (Rr := fun M' W1 => M' = M1 ∧ Touch (fun b => MF mg pg sg b) Y W1) H0.out hi 51 #[.pointer (some ⟨b2, 0, none⟩), .pointer (some ⟨b0, 0, none⟩), .pointer (some ⟨b1, 0, none⟩)] (callF51 _) (by
      rw [hY]
      refine hcc.mono ?_
      rintro e Y' ⟨rfl, t, hm⟩
      exact ⟨rfl, M1, hm, hlen, hacc.touch t (fun e => by have := H0.out.foot _ e; omega), rfl, t⟩)
    have HMK := Lib.hid hmk
    have hbWY : Below W.heap.size W Y := hbX.trans (hbY.mono hbX.size)
    have HFIN : Hid (∀ W1, Touch (fun b => MF mg pg sg b) Y W1 → MemAt W1 mg pg sg M1 → ∀ hi : i < M1.pr.length, MOk w W mg (M1.tick i) K (W1.setCell ⟨pg, i * 7 + 6, none⟩ (.int .i64 (wrap64 ((M1.pr[i]).st + 1))))) :=
      Lib.hid (fun W1 t hm hi => acc_fin3 h h0 g1 g2 g3 hbWY t hm hi)
    clear hcc hmk hacc hbY hbWY hlen hM1 hY p0 p1 p2 h0 h g1 g2 g3 his hi hbX
    unfold aagg
    have HE := Lib.hid (And.intro hX (And.intro e0 (And.intro e1 e2)))
    clear hX e0 e1 e2
    go_enter Try.func23, Try.ntmps23
    go_wp2_with fail
    rw [HE.out.1, HE.out.2.2.2, HE.out.2.2.1, HE.out.2.1]
    clear HE
    go_wp2_with fail
    refine HMK.out.mono ?_
    rintro e w5 ⟨rfl, M', W1, hi5, ⟨rfl, ht5⟩, hm5, rfl⟩
    have HF5 := Lib.hid (HFIN.out _ ht5 hm5 hi5)
    go_wp2_with fail
    go_ret
    exact ⟨rfl, HF5.out⟩

set_option maxRecDepth 100000 in
set_option maxHeartbeats 2000000 in
theorem pubn_at (h : MO w W mg M K) (p : Int) (n : Int) : Calls Try.prog 24 #[.pointer (some ⟨mg, 0, none⟩), .int .i64 p, .int .i64 n] W fun e W' => e = .returned (.bool (hasB M.pr.length p)) ∧ MOk w W mg (if hasB M.pr.length p = true then (M.pub p.toNat n).tick p.toNat else M) K W' := by
  obtain ⟨⟨pg, sg, h0, g1, g2, g3⟩, -, -⟩ := id h
  obtain ⟨X, b0, b1, b2, hX, e0, e1, e2, hbX, p0, p1, p2⟩ := boxes3 W (.pointer (some ⟨mg, 0, none⟩)) (.int .i64 p) #[.int .i64 n] 3
  have hmf : ∀ (fn : Fn) (first cap : Array Value) (w : World), (Instr.makeFunc fn first cap).run Try.prog w = .ok (.func fn first cap) w := fun _ _ _ _ => rfl
  have H0 := Lib.hid (h0.below hbX)
  have c0 := p0.c 0 _ rfl
  have c1 := p1.c 0 _ rfl
  have l0 := p0.l
  have l1 := p1.l
  have l2 := p2.l
  cases his : hasB M.pr.length p with
  | false =>
    have HMK := Lib.hid (make_no (some ⟨mg, 0, none⟩) p true (.func (.func 52) #[] #[.pointer (some ⟨b2, 0, none⟩), .pointer (some ⟨b0, 0, none⟩), .pointer (some ⟨b1, 0, none⟩)]) (has_at H0.out p) (by rw [his]; rfl))
    rw [if_neg (by decide)]
    have HFIN := Lib.hid (h.ok hbX)
    clear p0 p1 p2 h0 h g1 g2 g3 his hbX
    skip
    have HE := Lib.hid (And.intro hX (And.intro e0 (And.intro e1 e2)))
    clear hX e0 e1 e2
    go_enter Try.func24, Try.ntmps24
    go_wp2_with fail
    rw [HE.out.1, HE.out.2.2.2, HE.out.2.2.1, HE.out.2.1]
    clear HE
    go_wp2_with fail
    refine HMK.out.mono ?_
    rintro e w5 ⟨rfl, rfl⟩
    go_wp2_with fail
    go_ret
    exact ⟨rfl, HFIN.out⟩
  | true =>
    obtain ⟨i, rfl, hi⟩ := hasB_yes his
    rw [if_pos rfl, Int.toNat_natCast]
    obtain ⟨Y, hY⟩ : ∃ Y, X.alloc (.cells #[.pointer (some ⟨pg, i * 7, none⟩), .func (.func 52) #[] #[.pointer (some ⟨b2, 0, none⟩), .pointer (some ⟨b0, 0, none⟩), .pointer (some ⟨b1, 0, none⟩)]] 96) = Y := ⟨_, rfl⟩
    have hbY : Below X.heap.size X Y := by rw [← hY]; exact (Below.refl _ _).alloc (Nat.le_refl _) _
    have hacc : Blk Y X.heap.size [.pointer (some ⟨pg, i * 7, none⟩), .func (.func 52) #[] #[.pointer (some ⟨b2, 0, none⟩), .pointer (some ⟨b0, 0, none⟩), .pointer (some ⟨b1, 0, none⟩)]] := by rw [← hY]; exact Blk.new _ _ _
    have hcc := pub_c (x := n) (H0.out.below hbY) hi (p0.below hbY) (p1.below hbY) (p2.below hbY)
    obtain ⟨M1, hM1⟩ : ∃ M1, M.pub i n = M1 := ⟨_, rfl⟩
    have hlen : M1.pr.length = M.pr.length := by rw [← hM1]; exact List.length_set
    rw [hM1] at hcc ⊢
    have hmk := make_yes (Rr := fun M' W1 => M' = M1 ∧ Touch (fun b => MF mg pg sg b) Y W1) H0.out hi 52 #[.pointer (some ⟨b2, 0, none⟩), .pointer (some ⟨b0, 0, none⟩), .pointer (some ⟨b1, 0, none⟩)] (callF52 _) (by
      rw [hY]
      refine hcc.mono ?_
      rintro e Y' ⟨rfl, t, hm⟩
      exact ⟨rfl, M1, hm, hlen, hacc.touch t (fun e => by have := H0.out.foot _ e; omega), rfl, t⟩)
    have HMK := Lib.hid hmk
    have hbWY : Below W.heap.size W Y := hbX.trans (hbY.mono hbX.size)
    have HFIN : Hid (∀ W1, Touch (fun b => MF mg pg sg b) Y W1 → MemAt W1 mg pg sg M1 → ∀ hi : i < M1.pr.length, MOk w W mg (M1.tick i) K (W1.setCell ⟨pg, i * 7 + 6, none⟩ (.int .i64 (wrap64 ((M1.pr[i]).st + 1))))) :=
      Lib.hid (fun W1 t hm hi => acc_fin3 h h0 g1 g2 g3 hbWY t hm hi)
    clear hcc hmk hacc hbY hbWY hlen hM1 hY p0 p1 p2 h0 h g1 g2 g3 his hi hbX
    skip
    have HE := Lib.hid (And.intro hX (And.intro e0 (And.intro e1 e2)))
    clear hX e0 e1 e2
    go_enter Try.func24, Try.ntmps24
    go_wp2_with fail
    rw [HE.out.1, HE.out.2.2.2, HE.out.2.2.1, HE.out.2.1]
    clear HE
    go_wp2_with fail
    refine HMK.out.mono ?_
    rintro e w5 ⟨rfl, M', W1, hi5, ⟨rfl, ht5⟩, hm5, rfl⟩
    have HF5 := Lib.hid (HFIN.out _ ht5 hm5 hi5)
    go_wp2_with fail
    go_ret
    exact ⟨rfl, HF5.out⟩
end
end Go.Proofs.Ythllfeogchbihac
