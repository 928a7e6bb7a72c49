/- MemPlays: does: SwapSnapshot, Swap. -/
import Derived.Test.YthllfeogchbihacMemPc
import Derived.Deep.DeepCutAuto
namespace Go.Proofs.Ythllfeogchbihac
open Go.RowKit
set_option linter.unusedSimpArgs false
set_option linter.unusedVariables false
section
variable {w W : World} {mg rg : Nat} {M R : Me} {xs : List Int}
theorem sq_new {V : World} {M' R' : Me} {xs ys : List Int} {b5 g : Nat} {cs : List Value} {z : Int} (h : PO w V mg rg M' R' xs ys (DK2 b5 cs g [.int .i64 z])) : SqAt V (some ⟨g, 0, none⟩) 1 [z] := by
  have hb : Blk V g [.int .i64 z] := h.kb _ _ (.inr ⟨rfl, rfl⟩)
  refine ⟨rfl, by decide, fun j u hj => ⟨g, rfl, hb.l, ?_⟩⟩
  match j, hj with
  | 0, hj =>
    have e : z = u := by simpa using hj
    subst e
    exact hb.c 0 _ rfl
  | j + 1, hj => simp at hj
set_option maxRecDepth 100000 in
set_option maxHeartbeats 4000000 in
theorem does_7 (h : PO w W mg rg M R xs xs (fun _ _ => False)) (hE : EqR M R) (k p q x y z : Int) (hk : 0 ≤ k ∧ k ≤ 255) (hc : k % 8 = 7) : Calls Try.prog 17 #[.pointer (some ⟨mg, 0, none⟩), .pointer (some ⟨rg, 0, none⟩), .agg #[.int .u8 k, .int .i64 p, .int .i64 q, .int .i64 x, .int .i64 y, .int .i64 z]] W fun e W' => DoesEnd w mg rg e W' := by
  obtain ⟨X, b5, hX, hb5, hP⟩ := does_start h k p q x y z
  have k0 := hk.1
  have k1 := hk.2
  have t0 : (k % 8 == 0) = false := by rw [hc]; decide
  have t1 : (k % 8 == 1) = false := by rw [hc]; decide
  have t2 : (k % 8 == 2) = false := by rw [hc]; decide
  have t3 : (k % 8 == 3) = false := by rw [hc]; decide
  have t4 : (k % 8 == 4) = false := by rw [hc]; decide
  have t5 : (k % 8 == 5) = false := by rw [hc]; decide
  have t6 : (k % 8 == 6) = false := by rw [hc]; decide
  have a0 := hP.act.c 0 _ rfl
  have a1 := hP.act.c 1 _ rfl
  have a2 := hP.act.c 2 _ rfl
  have a3 := hP.act.c 3 _ rfl
  have a4 := hP.act.c 4 _ rfl
  have a5 := hP.act.c 5 _ rfl
  have al := hP.act.l
  have HE := Lib.hid (And.intro hX hb5)
  have HP := Lib.hid (hP.below (below_drew (Below.refl _ _)))
  have HQ := Lib.hid hE
  clear hX hb5 hP hE h hk hc
  obtain ⟨bq, hbq⟩ : ∃ bq, hasB M.pr.length p = bq := ⟨_, rfl⟩
  obtain ⟨c1, hc1⟩ : ∃ c1, (hasB M.pr.length p && decide (M.sn.i = x)) = c1 := ⟨_, rfl⟩
  have HM : Hid (∀ V g, PO w V mg rg M R xs xs (DK2 b5 (actC k p q x y z) g [.int .i64 z]) → Calls Try.prog 11 #[.pointer (some ⟨mg, 0, none⟩), .int .i64 p, .int .i64 x, .agg #[.int .i64 y, .slice none 0 0, .slice none 0 0, .slice none 0 0, .int .i64 0, .slice none 0 0, .slice (some ⟨g, 0, none⟩) 1 1]] V fun e W' => e = .returned (.tuple #[.bool c1, .bool bq]) ∧ PO w W' mg rg (swapsM M p x ⟨y, some ⟨g, 0, none⟩, 1, 1⟩) R (if c1 = true then [z] else xs) xs (DK b5 (actC k p q x y z))) := Lib.hid (fun V g h => by
    have := pm_swaps h p x ⟨y, some ⟨g, 0, none⟩, 1, 1⟩ (sq_new h) (fun b e => by
      obtain ⟨a, e1, e2⟩ := e
      have e1 : some (⟨g, 0, none⟩ : Addr) = some a := e1
      injection e1 with e1
      subst e1 e2
      exact ⟨_, .inr ⟨rfl, rfl⟩⟩)
    rw [hc1, hbq] at this
    refine this.mono ?_
    rintro e W' ⟨rfl, h2⟩
    exact ⟨rfl, h2.less (fun b vs e => .inl e)⟩)
  have HR : Hid (∀ V M' g, PO w V mg rg M' R (if c1 = true then [z] else xs) xs (DK2 b5 (actC k p q x y z) g [.int .i64 z]) → Calls Try.prog 45 #[.pointer (some ⟨rg, 0, none⟩), .int .i64 p, .int .i64 x, .agg #[.int .i64 y, .slice none 0 0, .slice none 0 0, .slice none 0 0, .int .i64 0, .slice none 0 0, .slice (some ⟨g, 0, none⟩) 1 1]] V fun e W' => e = .returned (.tuple #[.bool c1, .bool bq]) ∧ PO w W' mg rg M' (swapsM R p x ⟨y, some ⟨g, 0, none⟩, 1, 1⟩) (if c1 = true then [z] else xs) (if c1 = true then [z] else xs) (DK b5 (actC k p q x y z))) := Lib.hid (fun V M' g h => by
    have := pr_swaps h p x ⟨y, some ⟨g, 0, none⟩, 1, 1⟩ (sq_new h) (fun b e => by
      obtain ⟨a, e1, e2⟩ := e
      have e1 : some (⟨g, 0, none⟩ : Addr) = some a := e1
      injection e1 with e1
      subst e1 e2
      exact ⟨_, .inr ⟨rfl, rfl⟩⟩)
    rw [← HQ.out.1, ← HQ.out.2.2, hc1, hbq] at this
    refine this.mono ?_
    rintro e W' ⟨rfl, h2⟩
    exact ⟨rfl, h2.less (fun b vs e => .inl e)⟩)
  have HF : Hid (∀ g g', EqR (swapsM M p x ⟨y, some ⟨g, 0, none⟩, 1, 1⟩) (swapsM R p x ⟨y, some ⟨g', 0, none⟩, 1, 1⟩)) := Lib.hid (fun g g' => HQ.out.swaps p x _ _ rfl)
  have HIM := Lib.hid (fun W => image_at W z)
  clear hbq hc1 HQ
  unfold iagg at HIM
  generalize (if c1 = true then [z] else xs) = xs' at *
  go_enter Try.func17, Try.ntmps17
  go_wp2_with fail
  rw [HE.out.1, HE.out.2]
  clear HE
  go_wp2_with fail
  go_region_held3 (fun w' => w'.cell? ⟨b5, 0, none⟩ = some (.int .u8 k) ∧ w'.cell? ⟨b5, 1, none⟩ = some (.int .i64 p) ∧ w'.cell? ⟨b5, 2, none⟩ = some (.int .i64 q) ∧ w'.cell? ⟨b5, 3, none⟩ = some (.int .i64 x) ∧ w'.cell? ⟨b5, 4, none⟩ = some (.int .i64 y) ∧ w'.cell? ⟨b5, 5, none⟩ = some (.int .i64 z) ∧ b5 < w'.heap.size)
    ((first | (with_reducible exact hkeep) | (refine ⟨?_, ?_, ?_, ?_, ?_, ?_, ?_⟩ <;> simp [*]) | fail))
    (first
      | (go_at_call 14; refine (HIM.out _).mono ?_; rintro e w4 ⟨g, rfl, hb4, hg, hgb⟩
         have h4 := HP.out.two hb4 hg hgb
         have hkeep := And.intro (h4.act2.c 0 _ rfl) (And.intro (h4.act2.c 1 _ rfl) (And.intro (h4.act2.c 2 _ rfl) (And.intro (h4.act2.c 3 _ rfl) (And.intro (h4.act2.c 4 _ rfl) (And.intro (h4.act2.c 5 _ rfl) h4.act2.l)))))
         have HP := Lib.hid h4
         clear h4 hb4 hg hgb)
      | (go_at_call 11; refine (HM.out _ _ HP.out).mono ?_; rintro e w4 ⟨rfl, h4⟩
         have hkeep := And.intro (h4.act.c 0 _ rfl) (And.intro (h4.act.c 1 _ rfl) (And.intro (h4.act.c 2 _ rfl) (And.intro (h4.act.c 3 _ rfl) (And.intro (h4.act.c 4 _ rfl) (And.intro (h4.act.c 5 _ rfl) h4.act.l)))))
         have HP := Lib.hid h4
         clear h4)
      | fail)
  go_wp2_with fail
  have HP := Lib.hid (HP.out.below (below_drew (Below.refl _ _)))
  clear a0 a1 a2 a3 a4 a5 al
  obtain ⟨a0, a1, a2, a3, a4, a5, al⟩ := hkeep
  go_region_held3 (fun w' => w'.cell? ⟨b5, 0, none⟩ = some (.int .u8 k) ∧ w'.cell? ⟨b5, 1, none⟩ = some (.int .i64 p) ∧ w'.cell? ⟨b5, 2, none⟩ = some (.int .i64 q) ∧ w'.cell? ⟨b5, 3, none⟩ = some (.int .i64 x) ∧ w'.cell? ⟨b5, 4, none⟩ = some (.int .i64 y) ∧ w'.cell? ⟨b5, 5, none⟩ = some (.int .i64 z) ∧ b5 < w'.heap.size)
    ((first | (with_reducible exact hkeep2) | (refine ⟨?_, ?_, ?_, ?_, ?_, ?_, ?_⟩ <;> simp [*]) | fail))
    (first
      | (go_at_call 14; refine (HIM.out _).mono ?_; rintro e w5 ⟨g', rfl, hb4, hg, hgb⟩
         have h4 := HP.out.two hb4 hg hgb
         have hkeep2 := And.intro (h4.act2.c 0 _ rfl) (And.intro (h4.act2.c 1 _ rfl) (And.intro (h4.act2.c 2 _ rfl) (And.intro (h4.act2.c 3 _ rfl) (And.intro (h4.act2.c 4 _ rfl) (And.intro (h4.act2.c 5 _ rfl) h4.act2.l)))))
         have HP := Lib.hid h4
         clear h4 hb4 hg hgb)
      | (go_at_call 45; refine (HR.out _ _ _ HP.out).mono ?_; rintro e w5 ⟨rfl, h4⟩
         have hkeep2 := And.intro (h4.act.c 0 _ rfl) (And.intro (h4.act.c 1 _ rfl) (And.intro (h4.act.c 2 _ rfl) (And.intro (h4.act.c 3 _ rfl) (And.intro (h4.act.c 4 _ rfl) (And.intro (h4.act.c 5 _ rfl) h4.act.l)))))
         have HP := Lib.hid h4
         clear h4)
      | fail)
  go_wp2_with fail
  all_goals go_ret
  all_goals exact ⟨by simp, _, _, _, HP.out.none, HF.out _ _⟩
end
end Go.Proofs.Ythllfeogchbihac
