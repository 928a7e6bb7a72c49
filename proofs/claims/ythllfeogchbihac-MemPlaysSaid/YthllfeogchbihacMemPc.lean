/- MemPlays: does: Publish, Announce, SwapSnapshot: regions that draw. -/
import Derived.Test.YthllfeogchbihacMemPb
import Derived.Deep.RegionHeld3
namespace Go.Proofs.Ythllfeogchbihac
open Go.RowKit
set_option linter.unusedSimpArgs false
set_option linter.unusedVariables false
theorem field45 (a b c d e f : Value) (w : World) : (Instr.field 45 (.agg #[a, b, c, d, e, f]) 2).run Try.prog w = .ok (.agg #[c, d, e, f]) w := by kernel_rfl
section
variable {w W : World} {mg rg : Nat} {M R : Me} {xs : List Int}
set_option maxRecDepth 100000 in
set_option maxHeartbeats 4000000 in
theorem does_2 (h : PO w W mg rg M R xs xs (fun _ _ => False)) (hE : EqR M R) (k p q x y z : Int) (hk : 0 ≤ k ∧ k ≤ 255) (hc : k % 8 = 2) : Calls Try.prog 17 #[.pointer (some ⟨mg, 0, none⟩), .pointer (some ⟨rg, 0, none⟩), .agg #[.int .u8 k, .int .i64 p, .int .i64 q, .int .i64 x, .int .i64 y, .int .i64 z]] W fun e W' => DoesEnd w mg rg e W' := by
  obtain ⟨X, b5, hX, hb5, hP⟩ := does_start h k p q x y z
  have k0 := hk.1
  have k1 := hk.2
  have t0 : (k % 8 == 0) = false := by rw [hc]; decide
  have t1 : (k % 8 == 1) = false := by rw [hc]; decide
  have t2 : (k % 8 == 2) = true := by rw [hc]; decide
  have a0 := hP.act.c 0 _ rfl
  have a1 := hP.act.c 1 _ rfl
  have a2 := hP.act.c 2 _ rfl
  have a3 := hP.act.c 3 _ rfl
  have a4 := hP.act.c 4 _ rfl
  have a5 := hP.act.c 5 _ rfl
  have al := hP.act.l
  have HE := Lib.hid (And.intro hX hb5)
  have HP := Lib.hid (hP.below (below_drew (Below.refl _ _)))
  have HQ := Lib.hid hE
  clear hX hb5 hP hE h hk hc
  obtain ⟨bq, hbq⟩ : ∃ bq, hasB M.pr.length p = bq := ⟨_, rfl⟩
  have HM : Hid (∀ V R', PO w V mg rg M R' xs xs (DK b5 (actC k p q x y z)) → Calls Try.prog 24 #[.pointer (some ⟨mg, 0, none⟩), .int .i64 p, .int .i64 y] V fun e W' => e = .returned (.bool bq) ∧ PO w W' mg rg (pubM M p y) R' xs xs (DK b5 (actC k p q x y z))) := Lib.hid (fun V R' h => by
    have := pm_pub h p y
    rw [hbq] at this
    exact this)
  have HR : Hid (∀ V M', PO w V mg rg M' R xs xs (DK b5 (actC k p q x y z)) → Calls Try.prog 38 #[.pointer (some ⟨rg, 0, none⟩), .int .i64 p, .int .i64 y] V fun e W' => e = .returned (.bool bq) ∧ PO w W' mg rg M' (pubM R p y) xs xs (DK b5 (actC k p q x y z))) := Lib.hid (fun V M' h => by
    have := pr_pub h p y
    rw [← HQ.out.1, hbq] at this
    exact this)
  have HF : Hid (EqR (pubM M p y) (pubM R p y)) := Lib.hid (HQ.out.pub p y)
  clear hbq HQ
  generalize pubM M p y = M2 at *
  generalize pubM R p y = R2 at *
  go_enter Try.func17, Try.ntmps17
  go_wp2_with fail
  rw [HE.out.1, HE.out.2]
  clear HE
  go_wp2_with fail
  go_region_held3 (fun w' => w'.cell? ⟨b5, 1, none⟩ = some (.int .i64 p) ∧ w'.cell? ⟨b5, 4, none⟩ = some (.int .i64 y) ∧ b5 < w'.heap.size)
    ((first | (with_reducible exact hkeep) | (refine ⟨?_, ?_, ?_⟩ <;> simp [*]) | fail))
    (first
      | (go_at_call 24; refine (HM.out _ _ HP.out).mono ?_; rintro e w4 ⟨rfl, h4⟩
         have hkeep := And.intro (h4.act.c 1 _ rfl) (And.intro (h4.act.c 4 _ rfl) h4.act.l)
         have HP := Lib.hid h4
         clear h4)
      | (go_at_call 38; refine (HR.out _ _ HP.out).mono ?_; rintro e w4 ⟨rfl, h4⟩
         have hkeep := And.intro (h4.act.c 1 _ rfl) (And.intro (h4.act.c 4 _ rfl) h4.act.l)
         have HP := Lib.hid h4
         clear h4)
      | fail)
  go_wp2_with fail
  all_goals go_ret
  all_goals exact ⟨by simp, _, _, _, HP.out.none, HF.out⟩
set_option maxRecDepth 100000 in
set_option maxHeartbeats 4000000 in
theorem does_0 (h : PO w W mg rg M R xs xs (fun _ _ => False)) (hE : EqR M R) (k p q x y z : Int) (hk : 0 ≤ k ∧ k ≤ 255) (hc : k % 8 = 0) : Calls Try.prog 17 #[.pointer (some ⟨mg, 0, none⟩), .pointer (some ⟨rg, 0, none⟩), .agg #[.int .u8 k, .int .i64 p, .int .i64 q, .int .i64 x, .int .i64 y, .int .i64 z]] W fun e W' => DoesEnd w mg rg e W' := by
  obtain ⟨X, b5, hX, hb5, hP⟩ := does_start h k p q x y z
  have k0 := hk.1
  have k1 := hk.2
  have t0 : (k % 8 == 0) = true := by rw [hc]; decide
  have a0 := hP.act.c 0 _ rfl
  have a1 := hP.act.c 1 _ rfl
  have a2 := hP.act.c 2 _ rfl
  have a3 := hP.act.c 3 _ rfl
  have a4 := hP.act.c 4 _ rfl
  have a5 := hP.act.c 5 _ rfl
  have al := hP.act.l
  have HE := Lib.hid (And.intro hX hb5)
  have HP := Lib.hid (hP.below (below_drew (Below.refl _ _)))
  have HQ := Lib.hid hE
  clear hX hb5 hP hE h hk hc
  obtain ⟨bq, hbq⟩ : ∃ bq, hasB M.pr.length p = bq := ⟨_, rfl⟩
  have HM : Hid (∀ V R', PO w V mg rg M R' xs xs (DK b5 (actC k p q x y z)) → Calls Try.prog 23 #[.pointer (some ⟨mg, 0, none⟩), .int .i64 p, .agg #[.int .i64 y, .int .u8 1, .int .i64 z, .slice none 0 0, .slice none 0 0]] V fun e W' => e = .returned (.bool bq) ∧ PO w W' mg rg (annM M p ⟨y, 1, z, 0, 0⟩) R' xs xs (DK b5 (actC k p q x y z))) := Lib.hid (fun V R' h => by
    have := pm_ann h p ⟨y, 1, z, 0, 0⟩
    rw [hbq] at this
    exact this)
  have HR : Hid (∀ V M', PO w V mg rg M' R xs xs (DK b5 (actC k p q x y z)) → Calls Try.prog 35 #[.pointer (some ⟨rg, 0, none⟩), .int .i64 p, .agg #[.int .i64 y, .int .u8 1, .int .i64 z, .slice none 0 0, .slice none 0 0]] V fun e W' => e = .returned (.bool bq) ∧ PO w W' mg rg M' (annM R p ⟨y, 1, z, 0, 0⟩) xs xs (DK b5 (actC k p q x y z))) := Lib.hid (fun V M' h => by
    have := pr_ann h p ⟨y, 1, z, 0, 0⟩
    rw [← HQ.out.1, hbq] at this
    exact this)
  have HF : Hid (EqR (annM M p ⟨y, 1, z, 0, 0⟩) (annM R p ⟨y, 1, z, 0, 0⟩)) := Lib.hid (HQ.out.ann p _)
  have HEN := Lib.hid (fun W => entry_at W k p q x y z)
  have hfd := field45
  clear hbq HQ
  generalize annM M p ⟨y, 1, z, 0, 0⟩ = M2 at *
  generalize annM R p ⟨y, 1, z, 0, 0⟩ = R2 at *
  go_enter Try.func17, Try.ntmps17
  go_wp2_with fail
  rw [HE.out.1, HE.out.2]
  clear HE
  go_wp2_with fail
  go_region_held3 (fun w' => w'.cell? ⟨b5, 0, none⟩ = some (.int .u8 k) ∧ w'.cell? ⟨b5, 1, none⟩ = some (.int .i64 p) ∧ w'.cell? ⟨b5, 2, none⟩ = some (.int .i64 q) ∧ w'.cell? ⟨b5, 3, none⟩ = some (.int .i64 x) ∧ w'.cell? ⟨b5, 4, none⟩ = some (.int .i64 y) ∧ w'.cell? ⟨b5, 5, none⟩ = some (.int .i64 z) ∧ b5 < w'.heap.size)
    ((first | (with_reducible exact hkeep) | (refine ⟨?_, ?_, ?_, ?_, ?_, ?_, ?_⟩ <;> simp [*]) | fail))
    (first
      | (go_at_call 34; refine (HEN.out _).mono ?_; rintro e w4 ⟨rfl, hb4⟩
         have h4 := HP.out.below hb4
         have hkeep := And.intro (h4.act.c 0 _ rfl) (And.intro (h4.act.c 1 _ rfl) (And.intro (h4.act.c 2 _ rfl) (And.intro (h4.act.c 3 _ rfl) (And.intro (h4.act.c 4 _ rfl) (And.intro (h4.act.c 5 _ rfl) h4.act.l)))))
         have HP := Lib.hid h4
         clear h4 hb4)
      | (go_at_call 23; refine (HM.out _ _ HP.out).mono ?_; rintro e w4 ⟨rfl, h4⟩
         have hkeep := And.intro (h4.act.c 0 _ rfl) (And.intro (h4.act.c 1 _ rfl) (And.intro (h4.act.c 2 _ rfl) (And.intro (h4.act.c 3 _ rfl) (And.intro (h4.act.c 4 _ rfl) (And.intro (h4.act.c 5 _ rfl) h4.act.l)))))
         have HP := Lib.hid h4
         clear h4)
      | (go_at_call 35; refine (HR.out _ _ HP.out).mono ?_; rintro e w4 ⟨rfl, h4⟩
         have hkeep := And.intro (h4.act.c 0 _ rfl) (And.intro (h4.act.c 1 _ rfl) (And.intro (h4.act.c 2 _ rfl) (And.intro (h4.act.c 3 _ rfl) (And.intro (h4.act.c 4 _ rfl) (And.intro (h4.act.c 5 _ rfl) h4.act.l)))))
         have HP := Lib.hid h4
         clear h4)
      | fail)
  go_wp2_with fail
  all_goals go_ret
  all_goals exact ⟨by simp, _, _, _, HP.out.none, HF.out⟩
set_option maxRecDepth 100000 in
set_option maxHeartbeats 4000000 in
theorem does_6 (h : PO w W mg rg M R xs xs (fun _ _ => False)) (hE : EqR M R) (k p q x y z : Int) (hk : 0 ≤ k ∧ k ≤ 255) (hc : k % 8 = 6) : Calls Try.prog 17 #[.pointer (some ⟨mg, 0, none⟩), .pointer (some ⟨rg, 0, none⟩), .agg #[.int .u8 k, .int .i64 p, .int .i64 q, .int .i64 x, .int .i64 y, .int .i64 z]] W fun e W' => DoesEnd w mg rg e W' := by
  obtain ⟨X, b5, hX, hb5, hP⟩ := does_start h k p q x y z
  have k0 := hk.1
  have k1 := hk.2
  have t0 : (k % 8 == 0) = false := by rw [hc]; decide
  have t1 : (k % 8 == 1) = false := by rw [hc]; decide
  have t2 : (k % 8 == 2) = false := by rw [hc]; decide
  have t3 : (k % 8 == 3) = false := by rw [hc]; decide
  have t4 : (k % 8 == 4) = false := by rw [hc]; decide
  have t5 : (k % 8 == 5) = false := by rw [hc]; decide
  have t6 : (k % 8 == 6) = true := by rw [hc]; decide
  have a0 := hP.act.c 0 _ rfl
  have a1 := hP.act.c 1 _ rfl
  have a2 := hP.act.c 2 _ rfl
  have a3 := hP.act.c 3 _ rfl
  have a4 := hP.act.c 4 _ rfl
  have a5 := hP.act.c 5 _ rfl
  have al := hP.act.l
  have HE := Lib.hid (And.intro hX hb5)
  have HP := Lib.hid hP
  have HQ := Lib.hid hE
  clear hX hb5 hP hE h hk hc
  obtain ⟨bq, hbq⟩ : ∃ bq, hasB M.pr.length p = bq := ⟨_, rfl⟩
  obtain ⟨u, hu⟩ : ∃ u, (if hasB M.pr.length p = true then M.sn else zn) = u := ⟨_, rfl⟩
  obtain ⟨v, hv⟩ : ∃ v, (if hasB M.pr.length p = true then R.sn else zn) = v := ⟨_, rfl⟩
  obtain ⟨us, hus⟩ : ∃ us, (if hasB M.pr.length p = true then xs else []) = us := ⟨_, rfl⟩
  have hnil : ∀ V, SqAt V none 0 [] := fun V => ⟨rfl, by decide, fun j u hj => by simp at hj⟩
  have HM : Hid (Calls Try.prog 12 #[.pointer (some ⟨mg, 0, none⟩), .int .i64 p] X fun e W' => e = .returned (.tuple #[nagg u, .bool bq]) ∧ PO w W' mg rg (if hasB M.pr.length p = true then M.tick p.toNat else M) R xs xs (DK b5 (actC k p q x y z))) := Lib.hid (by
    have := pm_snap HP.out p
    rw [hu, hbq] at this
    rw [hbq]
    exact this)
  have HR : Hid (∀ V M' K, PO w V mg rg M' R xs xs K → Calls Try.prog 43 #[.pointer (some ⟨rg, 0, none⟩), .int .i64 p] V fun e W' => e = .returned (.tuple #[nagg v, .bool bq]) ∧ PO w W' mg rg M' (if hasB R.pr.length p = true then R.tick p.toNat else R) xs xs K) := Lib.hid (fun V M' K h => by
    have := pr_snap h p
    rw [← HQ.out.1] at this
    rw [← HQ.out.1]
    rw [hv, hbq] at this
    rw [hbq]
    exact this)
  have HF : Hid (EqR (if hasB M.pr.length p = true then M.tick p.toNat else M) (if hasB R.pr.length p = true then R.tick p.toNat else R)) := Lib.hid (by
    rw [← HQ.out.1]
    split
    · exact HQ.out.tick _
    · exact HQ.out)
  have HSQ : Hid (∀ V K, PO w V mg rg (if hasB M.pr.length p = true then M.tick p.toNat else M) (if hasB R.pr.length p = true then R.tick p.toNat else R) xs xs K → SqAt V u.A u.n us ∧ SqAt V v.A v.n us) := Lib.hid (fun V K h => by
    have h1 := h.sq
    have h2 := h.rq
    rw [← HQ.out.1] at h2
    rw [← hu, ← hv, ← hus]
    cases hb : hasB M.pr.length p with
    | false => exact ⟨hnil V, hnil V⟩
    | true =>
      rw [hb, if_pos rfl] at h1 h2
      exact ⟨h1, h2⟩)
  have hi : v.i = u.i := by
    rw [← hu, ← hv]
    split
    · exact HQ.out.2.2.symm
    · rfl
  clear hu hv hbq hus hnil HQ
  obtain ⟨ui, uA, un, uc⟩ := u
  obtain ⟨vi, vA, vn, vc⟩ := v
  obtain rfl : vi = ui := hi
  unfold nagg at HM HR
  dsimp only at HM HR HSQ
  generalize (if hasB M.pr.length p = true then M.tick p.toNat else M) = M2 at *
  generalize (if hasB R.pr.length p = true then R.tick p.toNat else R) = R2 at *
  go_enter Try.func17, Try.ntmps17
  go_wp2_with fail
  rw [HE.out.1, HE.out.2]
  clear HE
  go_wp2_with fail
  refine HM.out.mono ?_
  rintro e w3 ⟨rfl, h3⟩
  have hb3 : Below w3.heap.size w3 (w3.alloc (.cells #[.int .i64 vi, .slice none 0 0, .slice none 0 0, .slice none 0 0, .int .i64 0, .slice none 0 0, .slice uA un uc] 50)) := (Below.refl _ _).alloc (Nat.le_refl _) _
  have h4 := h3.two hb3 (Nat.le_refl _) (Blk.new w3 #[.int .i64 vi, .slice none 0 0, .slice none 0 0, .slice none 0 0, .int .i64 0, .slice none 0 0, .slice uA un uc] 50)
  have a1 := h4.act2.c 1 _ rfl
  have al := h4.act2.l
  have HR2 := Lib.hid (HR.out _ _ _ h4)
  clear h3 hb3 h4 HM HR HP a0 a2 a3 a4 a5
  go_wp2_with fail
  refine HR2.out.mono ?_
  rintro e w5 ⟨rfl, h5⟩
  have hb5 : Below w5.heap.size w5 (w5.alloc (.cells #[.int .i64 vi, .slice none 0 0, .slice none 0 0, .slice none 0 0, .int .i64 0, .slice none 0 0, .slice vA vn vc] 50)) := (Below.refl _ _).alloc (Nat.le_refl _) _
  have h6 := h5.below hb5
  obtain ⟨q1, q2⟩ := HSQ.out _ _ h6
  have hn : vn = un := by rw [← q1.1, ← q2.1]
  subst hn
  have HS := Lib.hid (same_seqs _ uA vA vn uc vc us q1 q2)
  have bb : Blk _ w3.heap.size _ := h6.kb _ _ (.inr ⟨rfl, rfl⟩)
  have bl := bb.l
  have x0 := bb.c 0 _ rfl
  have x6 := bb.c 6 _ rfl
  have cc := Blk.new w5 #[.int .i64 vi, .slice none 0 0, .slice none 0 0, .slice none 0 0, .int .i64 0, .slice none 0 0, .slice vA vn vc] 50
  have y0 := cc.c 0 _ rfl
  have y6 := cc.c 6 _ rfl
  have H6 := Lib.hid h6
  clear h5 hb5 h6 HR2 bb cc a1 al q1 q2
  go_wp2_with fail
  refine HS.out.mono ?_
  rintro e w7 ⟨rfl, hb7⟩
  have H7 := Lib.hid (H6.out.below hb7).none
  clear hb7 H6
  go_wp2_with fail
  go_ret
  exact ⟨by simp, _, _, _, H7.out, HF.out⟩
end
end Go.Proofs.Ythllfeogchbihac
