/- MemPlays: entry, image; the accesses of does that draw no order. -/
import Derived.Test.YthllfeogchbihacMemPa
namespace Go.Proofs.Ythllfeogchbihac
open Go.RowKit
set_option linter.unusedSimpArgs false
set_option linter.unusedVariables false
set_option maxRecDepth 100000 in
theorem entry_at (W : World) (k p q x y z : Int) : Calls Try.prog 34 #[.agg #[.int .u8 k, .int .i64 p, .int .i64 q, .int .i64 x, .int .i64 y, .int .i64 z]] W fun e W' => e = .returned (.agg #[.int .i64 p, .int .i64 y, .int .u8 1, .int .i64 z, .slice none 0 0, .slice none 0 0]) ∧ Below W.heap.size W W' := by
  go_enter Try.func34, Try.ntmps34
  go_wp2_with fail
  refine bodyPost_ret (v := .agg #[.int .i64 p, .int .i64 y, .int .u8 1, .int .i64 z, .slice none 0 0, .slice none 0 0]) (by simp [results, Try.results34, go_sem]) rfl ⟨rfl, ?_⟩
  exact ((Below.refl _ _).alloc (Nat.le_refl _) _).alloc (by simp) _
set_option maxRecDepth 100000 in
theorem image_at (W : World) (n : Int) : Calls Try.prog 14 #[.int .i64 n] W fun e W' => ∃ g, e = .returned (iagg (some ⟨g, 0, none⟩) 1 1) ∧ Below W.heap.size W W' ∧ W.heap.size ≤ g ∧ Blk W' g [.int .i64 n] := by
  go_enter Try.func14, Try.ntmps14
  go_wp2_with fail
  refine bodyPost_ret (v := .agg #[.slice none 0 0, .slice none 0 0, .slice none 0 0, .int .i64 0, .slice none 0 0, .slice (some ⟨W.heap.size + 1, 0, none⟩) 1 1]) (by simp [results, Try.results14, go_sem]) rfl ⟨W.heap.size + 1, rfl, ((Below.refl _ _).alloc (Nat.le_refl _) _).alloc (by simp) _, by omega, ?_⟩
  have := Blk.new (W.alloc (.cells #[.slice none 0 0, .slice none 0 0, .slice none 0 0, .int .i64 0, .slice none 0 0, .slice (some ⟨W.heap.size + 1, 0, none⟩) 1 1] 35)) #[.int .i64 n] 3
  rw [World.size_alloc] at this
  exact this
def actC (k p q x y z : Int) : List Value := [.int .u8 k, .int .i64 p, .int .i64 q, .int .i64 x, .int .i64 y, .int .i64 z]
def DK (b5 : Nat) (cs : List Value) : Nat → List Value → Prop := fun b vs => b = b5 ∧ vs = cs
def DK2 (b5 : Nat) (cs : List Value) (b7 : Nat) (ds : List Value) : Nat → List Value → Prop := fun b vs => (b = b5 ∧ vs = cs) ∨ (b = b7 ∧ vs = ds)
/-- What does comes to. -/
def DoesEnd (w : World) (mg rg : Nat) (e : Ending) (W' : World) : Prop := e = .returned (.bool true) ∧ ∃ M' R' xs', PO w W' mg rg M' R' xs' xs' (fun _ _ => False) ∧ EqR M' R'
theorem does_start {w W : World} {mg rg : Nat} {M R : Me} {xs ys : List Int} (h : PO w W mg rg M R xs ys (fun _ _ => False)) (k p q x y z : Int) : ∃ X b5, W.alloc (.cells #[.int .u8 k, .int .i64 p, .int .i64 q, .int .i64 x, .int .i64 y, .int .i64 z] 38) = X ∧ W.heap.size = b5 ∧ PO w X mg rg M R xs ys (DK b5 (actC k p q x y z)) := by
  refine ⟨_, _, rfl, rfl, h.grow ((Below.refl _ _).alloc (Nat.le_refl _) _) ?_⟩
  rintro b vs ⟨rfl, rfl⟩
  exact .inr ⟨Nat.le_refl _, Blk.new _ _ _⟩
section
variable {w W : World} {mg rg : Nat} {M R : Me} {xs ys : List Int}
theorem PO.act {b5 : Nat} {k p q x y z : Int} (h : PO w W mg rg M R xs ys (DK b5 (actC k p q x y z))) : Blk W b5 [.int .u8 k, .int .i64 p, .int .i64 q, .int .i64 x, .int .i64 y, .int .i64 z] := h.kb _ _ ⟨rfl, rfl⟩
theorem PO.act2 {b5 b7 : Nat} {ds : List Value} {k p q x y z : Int} (h : PO w W mg rg M R xs ys (DK2 b5 (actC k p q x y z) b7 ds)) : Blk W b5 [.int .u8 k, .int .i64 p, .int .i64 q, .int .i64 x, .int .i64 y, .int .i64 z] := h.kb _ _ (.inl ⟨rfl, rfl⟩)
theorem PO.two {b5 : Nat} {cs : List Value} (h : PO w W mg rg M R xs ys (DK b5 cs)) {W' : World} (hb : Below W.heap.size W W') {b7 : Nat} {ds : List Value} (h7 : W.heap.size ≤ b7) (hd : Blk W' b7 ds) : PO w W' mg rg M R xs ys (DK2 b5 cs b7 ds) := by
  refine h.grow hb ?_
  rintro b vs (⟨rfl, rfl⟩ | ⟨rfl, rfl⟩)
  · exact .inl ⟨rfl, rfl⟩
  · exact .inr ⟨h7, hd⟩
theorem PO.none {K : Nat → List Value → Prop} (h : PO w W mg rg M R xs ys K) : PO w W mg rg M R xs ys (fun _ _ => False) := h.less (fun _ _ e => e.elim)
end
section
variable {w W : World} {mg rg : Nat} {M R : Me} {xs : List Int}
set_option maxRecDepth 100000 in
set_option maxHeartbeats 4000000 in
theorem does_1 (h : PO w W mg rg M R xs xs (fun _ _ => False)) (hE : EqR M R) (k p q x y z : Int) (hk : 0 ≤ k ∧ k ≤ 255) (hc : k % 8 = 1) : Calls Try.prog 17 #[.pointer (some ⟨mg, 0, none⟩), .pointer (some ⟨rg, 0, none⟩), .agg #[.int .u8 k, .int .i64 p, .int .i64 q, .int .i64 x, .int .i64 y, .int .i64 z]] W fun e W' => DoesEnd w mg rg e W' := by
  obtain ⟨X, b5, hX, hb5, hP⟩ := does_start h k p q x y z
  have k0 := hk.1
  have k1 := hk.2
  have t0 : (k % 8 == 0) = false := by rw [hc]; decide
  have t1 : (k % 8 == 1) = true := by rw [hc]; decide
  have a0 := hP.act.c 0 _ rfl
  have a1 := hP.act.c 1 _ rfl
  have a2 := hP.act.c 2 _ rfl
  have a3 := hP.act.c 3 _ rfl
  have a4 := hP.act.c 4 _ rfl
  have a5 := hP.act.c 5 _ rfl
  have al := hP.act.l
  have HE := Lib.hid (And.intro hX hb5)
  have HP := Lib.hid hP
  have HQ := Lib.hid hE
  clear hX hb5 hP hE h hk hc
  obtain ⟨bq, hbq⟩ : ∃ bq, (hasB M.pr.length p && hasB M.pr.length q) = bq := ⟨_, rfl⟩
  obtain ⟨u, hu⟩ : ∃ u, (if (hasB M.pr.length p && hasB M.pr.length q) = true then M.proc q else zp) = u := ⟨_, rfl⟩
  have HM : Hid (Calls Try.prog 19 #[.pointer (some ⟨mg, 0, none⟩), .int .i64 p, .int .i64 q] X fun e W' => e = .returned (.tuple #[aagg u, .bool bq]) ∧ PO w W' mg rg (tickM M p (hasB M.pr.length q)) R xs xs (DK b5 (actC k p q x y z))) := Lib.hid (by
    have := pm_annd HP.out p q
    rw [hu, hbq] at this
    exact this)
  have HR : Hid (∀ V M' K, PO w V mg rg M' R xs xs K → Calls Try.prog 36 #[.pointer (some ⟨rg, 0, none⟩), .int .i64 p, .int .i64 q] V fun e W' => e = .returned (.tuple #[aagg u, .bool bq]) ∧ PO w W' mg rg M' (tickM R p (hasB R.pr.length q)) xs xs K) := Lib.hid (fun V M' K h => by
    have := pr_annd h p q
    rw [← HQ.out.1, ← HQ.out.proc] at this
    rw [← HQ.out.1]
    rw [hu, hbq] at this
    exact this)
  have HF : Hid (EqR (tickM M p (hasB M.pr.length q)) (tickM R p (hasB R.pr.length q))) := Lib.hid (by rw [← HQ.out.1]; exact HQ.out.tickM p _)
  have HS := Lib.hid (fun W => same_ann W u)
  clear hu hbq HQ
  unfold aagg at HM HR HS
  go_enter Try.func17, Try.ntmps17
  go_wp2_with fail
  rw [HE.out.1, HE.out.2]
  clear HE
  go_wp2_with fail
  refine HM.out.mono ?_
  rintro e w3 ⟨rfl, h3⟩
  have hb3 : Below w3.heap.size w3 (w3.alloc (.cells #[.int .i64 u.s, .int .u8 u.k, .int .i64 u.m, .slice none 0 0, .slice none 0 0] 68)) := (Below.refl _ _).alloc (Nat.le_refl _) _
  have h4 := h3.two hb3 (Nat.le_refl _) (Blk.new w3 #[.int .i64 u.s, .int .u8 u.k, .int .i64 u.m, .slice none 0 0, .slice none 0 0] 68)
  have a1 := h4.act2.c 1 _ rfl
  have a2 := h4.act2.c 2 _ rfl
  have al := h4.act2.l
  have HR2 := Lib.hid (HR.out _ _ _ h4)
  clear h3 hb3 h4 HM HR HP a0 a3 a4 a5
  go_wp2_with fail
  refine HR2.out.mono ?_
  rintro e w5 ⟨rfl, h5⟩
  have hb5 : Below w5.heap.size w5 (w5.alloc (.cells #[.int .i64 u.s, .int .u8 u.k, .int .i64 u.m, .slice none 0 0, .slice none 0 0] 68)) := (Below.refl _ _).alloc (Nat.le_refl _) _
  have h6 := h5.below hb5
  have bb : Blk _ w3.heap.size _ := h6.kb _ _ (.inr ⟨rfl, rfl⟩)
  have bl := bb.l
  have x0 := bb.c 0 _ rfl
  have x1 := bb.c 1 _ rfl
  have x2 := bb.c 2 _ rfl
  have x3 := bb.c 3 _ rfl
  have x4 := bb.c 4 _ rfl
  have cc := Blk.new w5 #[.int .i64 u.s, .int .u8 u.k, .int .i64 u.m, .slice none 0 0, .slice none 0 0] 68
  have y0 := cc.c 0 _ rfl
  have y1 := cc.c 1 _ rfl
  have y2 := cc.c 2 _ rfl
  have y3 := cc.c 3 _ rfl
  have y4 := cc.c 4 _ rfl
  have H6 := Lib.hid h6
  clear h5 hb5 h6 HR2 bb cc a1 a2 al
  go_wp2_with fail
  refine (HS.out _).mono ?_
  rintro e w7 ⟨rfl, hb7⟩
  have H7 := Lib.hid (H6.out.below hb7).none
  clear hb7 H6
  go_wp2_with fail
  go_ret
  exact ⟨by simp, _, _, _, H7.out, HF.out⟩
set_option maxRecDepth 100000 in
set_option maxHeartbeats 4000000 in
theorem does_4 (h : PO w W mg rg M R xs xs (fun _ _ => False)) (hE : EqR M R) (k p q x y z : Int) (hk : 0 ≤ k ∧ k ≤ 255) (hc : k % 8 = 4) : Calls Try.prog 17 #[.pointer (some ⟨mg, 0, none⟩), .pointer (some ⟨rg, 0, none⟩), .agg #[.int .u8 k, .int .i64 p, .int .i64 q, .int .i64 x, .int .i64 y, .int .i64 z]] W fun e W' => DoesEnd w mg rg e W' := by
  obtain ⟨X, b5, hX, hb5, hP⟩ := does_start h k p q x y z
  have k0 := hk.1
  have k1 := hk.2
  have t0 : (k % 8 == 0) = false := by rw [hc]; decide
  have t1 : (k % 8 == 1) = false := by rw [hc]; decide
  have t2 : (k % 8 == 2) = false := by rw [hc]; decide
  have t3 : (k % 8 == 3) = false := by rw [hc]; decide
  have t4 : (k % 8 == 4) = true := by rw [hc]; decide
  have a0 := hP.act.c 0 _ rfl
  have a1 := hP.act.c 1 _ rfl
  have a2 := hP.act.c 2 _ rfl
  have a3 := hP.act.c 3 _ rfl
  have a4 := hP.act.c 4 _ rfl
  have a5 := hP.act.c 5 _ rfl
  have al := hP.act.l
  have HE := Lib.hid (And.intro hX hb5)
  have HP := Lib.hid hP
  have HQ := Lib.hid hE
  clear hX hb5 hP hE h hk hc
  obtain ⟨bq, hbq⟩ : ∃ bq, (hasB M.pr.length p && hasB M.sl.length q) = bq := ⟨_, rfl⟩
  obtain ⟨u, hu⟩ : ∃ u, (if (hasB M.pr.length p && hasB M.sl.length q) = true then M.slot q else zs) = u := ⟨_, rfl⟩
  have HM : Hid (Calls Try.prog 21 #[.pointer (some ⟨mg, 0, none⟩), .int .i64 p, .int .i64 q] X fun e W' => e = .returned (.tuple #[sagg u, .bool bq]) ∧ PO w W' mg rg (tickM M p (hasB M.sl.length q)) R xs xs (DK b5 (actC k p q x y z))) := Lib.hid (by
    have := pm_slot HP.out p q
    rw [hu, hbq] at this
    exact this)
  have HR : Hid (∀ V M' K, PO w V mg rg M' R xs xs K → Calls Try.prog 40 #[.pointer (some ⟨rg, 0, none⟩), .int .i64 p, .int .i64 q] V fun e W' => e = .returned (.tuple #[sagg u, .bool bq]) ∧ PO w W' mg rg M' (tickM R p (hasB R.sl.length q)) xs xs K) := Lib.hid (fun V M' K h => by
    have := pr_slot h p q
    rw [← HQ.out.1, ← HQ.out.2.1, ← HQ.out.slot] at this
    rw [← HQ.out.2.1]
    rw [hu, hbq] at this
    exact this)
  have HF : Hid (EqR (tickM M p (hasB M.sl.length q)) (tickM R p (hasB R.sl.length q))) := Lib.hid (by rw [← HQ.out.2.1]; exact HQ.out.tickM p _)
  have HS := Lib.hid (fun W => same_slot W u)
  clear hu hbq HQ
  unfold sagg at HM HR HS
  go_enter Try.func17, Try.ntmps17
  go_wp2_with fail
  rw [HE.out.1, HE.out.2]
  clear HE
  go_wp2_with fail
  refine HM.out.mono ?_
  rintro e w3 ⟨rfl, h3⟩
  have hb3 : Below w3.heap.size w3 (w3.alloc (.cells #[.int .i64 u.i, .int .i64 u.p, .int .i64 u.s, .int .u8 u.k, .int .i64 u.m, .slice none 0 0, .slice none 0 0] 47)) := (Below.refl _ _).alloc (Nat.le_refl _) _
  have h4 := h3.two hb3 (Nat.le_refl _) (Blk.new w3 #[.int .i64 u.i, .int .i64 u.p, .int .i64 u.s, .int .u8 u.k, .int .i64 u.m, .slice none 0 0, .slice none 0 0] 47)
  have a1 := h4.act2.c 1 _ rfl
  have a2 := h4.act2.c 2 _ rfl
  have al := h4.act2.l
  have HR2 := Lib.hid (HR.out _ _ _ h4)
  clear h3 hb3 h4 HM HR HP a0 a3 a4 a5
  go_wp2_with fail
  refine HR2.out.mono ?_
  rintro e w5 ⟨rfl, h5⟩
  have hb5 : Below w5.heap.size w5 (w5.alloc (.cells #[.int .i64 u.i, .int .i64 u.p, .int .i64 u.s, .int .u8 u.k, .int .i64 u.m, .slice none 0 0, .slice none 0 0] 47)) := (Below.refl _ _).alloc (Nat.le_refl _) _
  have h6 := h5.below hb5
  have bb : Blk _ w3.heap.size _ := h6.kb _ _ (.inr ⟨rfl, rfl⟩)
  have bl := bb.l
  have x0 := bb.c 0 _ rfl
  have x1 := bb.c 1 _ rfl
  have x2 := bb.c 2 _ rfl
  have x3 := bb.c 3 _ rfl
  have x4 := bb.c 4 _ rfl
  have x5 := bb.c 5 _ rfl
  have x6 := bb.c 6 _ rfl
  have cc := Blk.new w5 #[.int .i64 u.i, .int .i64 u.p, .int .i64 u.s, .int .u8 u.k, .int .i64 u.m, .slice none 0 0, .slice none 0 0] 47
  have y0 := cc.c 0 _ rfl
  have y1 := cc.c 1 _ rfl
  have y2 := cc.c 2 _ rfl
  have y3 := cc.c 3 _ rfl
  have y4 := cc.c 4 _ rfl
  have y5 := cc.c 5 _ rfl
  have y6 := cc.c 6 _ rfl
  have H6 := Lib.hid h6
  clear h5 hb5 h6 HR2 bb cc a1 a2 al
  go_wp2_with fail
  refine (HS.out _).mono ?_
  rintro e w7 ⟨rfl, hb7⟩
  have H7 := Lib.hid (H6.out.below hb7).none
  clear hb7 H6
  go_wp2_with fail
  go_ret
  exact ⟨by simp, _, _, _, H7.out, HF.out⟩
set_option maxRecDepth 100000 in
set_option maxHeartbeats 4000000 in
theorem does_3 (h : PO w W mg rg M R xs xs (fun _ _ => False)) (hE : EqR M R) (k p q x y z : Int) (hk : 0 ≤ k ∧ k ≤ 255) (hc : k % 8 = 3) : Calls Try.prog 17 #[.pointer (some ⟨mg, 0, none⟩), .pointer (some ⟨rg, 0, none⟩), .agg #[.int .u8 k, .int .i64 p, .int .i64 q, .int .i64 x, .int .i64 y, .int .i64 z]] W fun e W' => DoesEnd w mg rg e W' := by
  obtain ⟨X, b5, hX, hb5, hP⟩ := does_start h k p q x y z
  have k0 := hk.1
  have k1 := hk.2
  have t0 : (k % 8 == 0) = false := by rw [hc]; decide
  have t1 : (k % 8 == 1) = false := by rw [hc]; decide
  have t2 : (k % 8 == 2) = false := by rw [hc]; decide
  have t3 : (k % 8 == 3) = true := by rw [hc]; decide
  have a0 := hP.act.c 0 _ rfl
  have a1 := hP.act.c 1 _ rfl
  have a2 := hP.act.c 2 _ rfl
  have a3 := hP.act.c 3 _ rfl
  have a4 := hP.act.c 4 _ rfl
  have a5 := hP.act.c 5 _ rfl
  have al := hP.act.l
  have HE := Lib.hid (And.intro hX hb5)
  have HP := Lib.hid hP
  have HQ := Lib.hid hE
  clear hX hb5 hP hE h hk hc
  obtain ⟨bq, hbq⟩ : ∃ bq, (hasB M.pr.length p && hasB M.pr.length q) = bq := ⟨_, rfl⟩
  obtain ⟨u, hu⟩ : ∃ u, (if (hasB M.pr.length p && hasB M.pr.length q) = true then (M.proc q).pos else 0) = u := ⟨_, rfl⟩
  have HM : Hid (Calls Try.prog 20 #[.pointer (some ⟨mg, 0, none⟩), .int .i64 p, .int .i64 q] X fun e W' => e = .returned (.tuple #[.int .i64 u, .bool bq]) ∧ PO w W' mg rg (tickM M p (hasB M.pr.length q)) R xs xs (DK b5 (actC k p q x y z))) := Lib.hid (by
    have := pm_publ HP.out p q
    rw [hu, hbq] at this
    exact this)
  have HR : Hid (∀ V M' K, PO w V mg rg M' R xs xs K → Calls Try.prog 39 #[.pointer (some ⟨rg, 0, none⟩), .int .i64 p, .int .i64 q] V fun e W' => e = .returned (.tuple #[.int .i64 u, .bool bq]) ∧ PO w W' mg rg M' (tickM R p (hasB R.pr.length q)) xs xs K) := Lib.hid (fun V M' K h => by
    have := pr_publ h p q
    rw [← HQ.out.1, ← HQ.out.proc] at this
    rw [← HQ.out.1]
    rw [hu, hbq] at this
    exact this)
  have HF : Hid (EqR (tickM M p (hasB M.pr.length q)) (tickM R p (hasB R.pr.length q))) := Lib.hid (by rw [← HQ.out.1]; exact HQ.out.tickM p _)
  clear hu hbq HQ
  go_enter Try.func17, Try.ntmps17
  go_wp2_with fail
  rw [HE.out.1, HE.out.2]
  clear HE
  go_wp2_with fail
  refine HM.out.mono ?_
  rintro e w3 ⟨rfl, h3⟩
  have a1 := h3.act.c 1 _ rfl
  have a2 := h3.act.c 2 _ rfl
  have al := h3.act.l
  have HR2 := Lib.hid (HR.out _ _ _ h3)
  clear h3 HM HR HP a0 a3 a4 a5
  go_wp2_with fail
  refine HR2.out.mono ?_
  rintro e w5 ⟨rfl, h5⟩
  have H7 := Lib.hid h5.none
  clear h5 HR2 a1 a2 al
  go_wp2_with fail
  go_ret
  exact ⟨by simp, _, _, _, H7.out, HF.out⟩
end
end Go.Proofs.Ythllfeogchbihac
