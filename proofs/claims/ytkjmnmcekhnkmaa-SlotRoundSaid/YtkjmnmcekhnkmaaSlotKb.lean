/- SlotRound, printed by print.sh, over SlotKa. -/
import Derived.Test.YtkjmnmcekhnkmaaPSlotRoundx0
import Derived.Test.YtkjmnmcekhnkmaaSlotKa
namespace Go.Proofs.Ytkjmnmcekhnkmaa.PSlotRound
open Go.RowKit Go.Proofs.YtkjmnmcekhnkmaaW.PrintWords Go.Proofs.YtkjmnmcekhnkmaaW.PrintLast Go.Proofs.YtkjmnmcekhnkmaaW.PrintMore
attribute [local go_sem] max2_int min2_int max_two min_two max_three min_three max_four min_four   -- for this text's walks alone
set_option linter.unusedVariables false
set_option linter.unusedSimpArgs false

/-! ### capstanlaw23_SlotRound: function 5 -/
mutual
def capstanlaw23_SlotRound.j0 : Nat → Int → Int → Bool → Option (Bool)
  | 0, _, _, _ => none
  | k + 1, x0, x1, x29 => if x29 = true then (some true) else (if 0 ≤ x0 then (if (x0 : Int).toNat ≤ 3198579280802 then (capstanlaw23_SlotRound.l0 k x0 x1 (List.replicate (x0 : Int).toNat z33) 1) else (none)) else (none))
def capstanlaw23_SlotRound.l0 : Nat → Int → Int → List (S33) → Int → Option (Bool)
  | 0, _, _, _, _ => none
  | k + 1, x0, x1, x5, x6 => if x6 ≤ x1 then ((slot_Place.f x6 x0).bind fun t123 => (if t123 < 0 then (capstanlaw23_SlotRound.j2 k x0 x1 x5 x6 t123 true) else (if t123 ≥ x0 then (capstanlaw23_SlotRound.j2 k x0 x1 x5 x6 t123 true) else (if 0 ≤ t123 then (if t123 < (x5.length : Int) then ((slot_Is.f ((rd_T33 x5 t123).f0) ((rd_T33 x5 t123).f1.f0) ((rd_T33 x5 t123).f1.f1) ((rd_T33 x5 t123).f1.f2.f0) ((rd_T33 x5 t123).f1.f2.f1) ((rd_T33 x5 t123).f1.f2.f2) ((rd_T33 x5 t123).f1.f2.f3) x6 x0).bind fun t125 => (capstanlaw23_SlotRound.j2 k x0 x1 x5 x6 t123 (t125 != 1))) else (none)) else (none))))) else (some true)
def capstanlaw23_SlotRound.j2 : Nat → Int → Int → List (S33) → Int → Int → Bool → Option (Bool)
  | 0, _, _, _, _, _, _ => none
  | k + 1, x0, x1, x5, x6, x7, x56 => if x56 = true then (some false) else ((slot_Next.f x6 0 x6 0 0 ([] : List (S91)) ([] : List Int)).bind fun bt126 => (if 0 ≤ x7 then (if x7 < (x5.length : Int) then (capstanlaw23_SlotRound.l1 k x0 x1 (x5.set (x7 : Int).toNat (⟨bt126.1, (⟨bt126.2.1, bt126.2.2.1, (⟨bt126.2.2.2.1, bt126.2.2.2.2.1, bt126.2.2.2.2.2.1, bt126.2.2.2.2.2.2⟩ : S29)⟩ : S31)⟩ : S33)) x6 1) else (none)) else (none)))
def capstanlaw23_SlotRound.l1 : Nat → Int → Int → List (S33) → Int → Int → Option (Bool)
  | 0, _, _, _, _, _ => none
  | k + 1, x0, x1, x5, x6, x8 => if x8 ≤ x6 then ((capstanlaw23_told.f x5 x8).bind fun bt138 => (if bt138.2 = true then (if x8 > (wrap64 (x6 - x0)) then (if bt138.1 = 2 then (if x8 ≤ (wrap64 (x6 - x0)) then (if bt138.1 = 3 then (capstanlaw23_SlotRound.l1 k x0 x1 x5 x6 (wrap64 (x8 + 1))) else (some false)) else (capstanlaw23_SlotRound.l1 k x0 x1 x5 x6 (wrap64 (x8 + 1)))) else (some false)) else (if x8 ≤ (wrap64 (x6 - x0)) then (if bt138.1 = 3 then (capstanlaw23_SlotRound.l1 k x0 x1 x5 x6 (wrap64 (x8 + 1))) else (some false)) else (capstanlaw23_SlotRound.l1 k x0 x1 x5 x6 (wrap64 (x8 + 1))))) else (some false))) else (capstanlaw23_SlotRound.l2 k x0 x1 x5 x6 (wrap64 (x6 + 1)))
def capstanlaw23_SlotRound.l2 : Nat → Int → Int → List (S33) → Int → Int → Option (Bool)
  | 0, _, _, _, _, _ => none
  | k + 1, x0, x1, x5, x6, x11 => if x11 ≤ (wrap64 ((wrap64 (x6 + x0)) + 1)) then ((capstanlaw23_told.f x5 x11).bind fun bt140 => (if bt140.2 = true then (if x11 ≤ (wrap64 (x6 + x0)) then (if bt140.1 = 1 then (if x11 > (wrap64 (x6 + x0)) then (if bt140.1 = 0 then (capstanlaw23_SlotRound.l2 k x0 x1 x5 x6 (wrap64 (x11 + 1))) else (some false)) else (capstanlaw23_SlotRound.l2 k x0 x1 x5 x6 (wrap64 (x11 + 1)))) else (some false)) else (if x11 > (wrap64 (x6 + x0)) then (if bt140.1 = 0 then (capstanlaw23_SlotRound.l2 k x0 x1 x5 x6 (wrap64 (x11 + 1))) else (some false)) else (capstanlaw23_SlotRound.l2 k x0 x1 x5 x6 (wrap64 (x11 + 1))))) else (some false))) else (capstanlaw23_SlotRound.l0 k x0 x1 x5 (wrap64 (x6 + 1)))
end
def capstanlaw23_SlotRound.f (k : Nat) (a0 : Int) (a1 : Int) : Option (Bool) := (capstanlaw23_awake.f).bind fun t119 => (if t119 = true then (if a0 < 1 then (capstanlaw23_SlotRound.j0 k a0 a1 true) else (if a0 > 60 then (capstanlaw23_SlotRound.j0 k a0 a1 true) else (if a1 < 0 then (capstanlaw23_SlotRound.j0 k a0 a1 true) else (capstanlaw23_SlotRound.j0 k a0 a1 (decide (a1 > 300)))))) else (some false))
theorem capstanlaw23_SlotRound.mono_l : ∀ k, (∀ y0 y1 y2, LeO (capstanlaw23_SlotRound.j0 k y0 y1 y2) (capstanlaw23_SlotRound.j0 (k + 1) y0 y1 y2)) ∧ (∀ y0 y1 y2 y3, LeO (capstanlaw23_SlotRound.l0 k y0 y1 y2 y3) (capstanlaw23_SlotRound.l0 (k + 1) y0 y1 y2 y3)) ∧ (∀ y0 y1 y2 y3 y4 y5, LeO (capstanlaw23_SlotRound.j2 k y0 y1 y2 y3 y4 y5) (capstanlaw23_SlotRound.j2 (k + 1) y0 y1 y2 y3 y4 y5)) ∧ (∀ y0 y1 y2 y3 y4, LeO (capstanlaw23_SlotRound.l1 k y0 y1 y2 y3 y4) (capstanlaw23_SlotRound.l1 (k + 1) y0 y1 y2 y3 y4)) ∧ (∀ y0 y1 y2 y3 y4, LeO (capstanlaw23_SlotRound.l2 k y0 y1 y2 y3 y4) (capstanlaw23_SlotRound.l2 (k + 1) y0 y1 y2 y3 y4))
  | 0 => ⟨fun _ _ _ r h => by simp [capstanlaw23_SlotRound.j0] at h, fun _ _ _ _ r h => by simp [capstanlaw23_SlotRound.l0] at h, fun _ _ _ _ _ _ r h => by simp [capstanlaw23_SlotRound.j2] at h, fun _ _ _ _ _ r h => by simp [capstanlaw23_SlotRound.l1] at h, fun _ _ _ _ _ r h => by simp [capstanlaw23_SlotRound.l2] at h⟩
  | k + 1 => by
    obtain ⟨ih0, ih1, ih2, ih3, ih4⟩ := capstanlaw23_SlotRound.mono_l k
    refine ⟨?_, ?_, ?_, ?_, ?_⟩
    · intro y0 y1 y2
      unfold capstanlaw23_SlotRound.j0
      repeat' first
      | (with_reducible exact ih0 _ _ _)
      | (with_reducible exact ih1 _ _ _ _)
      | (with_reducible exact ih2 _ _ _ _ _ _)
      | (with_reducible exact ih3 _ _ _ _ _)
      | (with_reducible exact ih4 _ _ _ _ _)
      | (with_reducible exact LeO.refl _)
      | (with_reducible exact LeO.none _)
      | (with_reducible refine LeO.ite ?_ ?_)
      | (with_reducible refine LeO.bind ?_ (fun _ => ?_))
      | exact ih0 _ _ _
      | exact ih1 _ _ _ _
      | exact ih2 _ _ _ _ _ _
      | exact ih3 _ _ _ _ _
      | exact ih4 _ _ _ _ _
      | exact LeO.none _
      | refine LeO.ite ?_ ?_
      | refine LeO.bind ?_ (fun _ => ?_)
    · intro y0 y1 y2 y3
      unfold capstanlaw23_SlotRound.l0
      repeat' first
      | (with_reducible exact ih0 _ _ _)
      | (with_reducible exact ih1 _ _ _ _)
      | (with_reducible exact ih2 _ _ _ _ _ _)
      | (with_reducible exact ih3 _ _ _ _ _)
      | (with_reducible exact ih4 _ _ _ _ _)
      | (with_reducible exact LeO.refl _)
      | (with_reducible exact LeO.none _)
      | (with_reducible refine LeO.ite ?_ ?_)
      | (with_reducible refine LeO.bind ?_ (fun _ => ?_))
      | exact ih0 _ _ _
      | exact ih1 _ _ _ _
      | exact ih2 _ _ _ _ _ _
      | exact ih3 _ _ _ _ _
      | exact ih4 _ _ _ _ _
      | exact LeO.none _
      | refine LeO.ite ?_ ?_
      | refine LeO.bind ?_ (fun _ => ?_)
    · intro y0 y1 y2 y3 y4 y5
      unfold capstanlaw23_SlotRound.j2
      repeat' first
      | (with_reducible exact ih0 _ _ _)
      | (with_reducible exact ih1 _ _ _ _)
      | (with_reducible exact ih2 _ _ _ _ _ _)
      | (with_reducible exact ih3 _ _ _ _ _)
      | (with_reducible exact ih4 _ _ _ _ _)
      | (with_reducible exact LeO.refl _)
      | (with_reducible exact LeO.none _)
      | (with_reducible refine LeO.ite ?_ ?_)
      | (with_reducible refine LeO.bind ?_ (fun _ => ?_))
      | exact ih0 _ _ _
      | exact ih1 _ _ _ _
      | exact ih2 _ _ _ _ _ _
      | exact ih3 _ _ _ _ _
      | exact ih4 _ _ _ _ _
      | exact LeO.none _
      | refine LeO.ite ?_ ?_
      | refine LeO.bind ?_ (fun _ => ?_)
    · intro y0 y1 y2 y3 y4
      unfold capstanlaw23_SlotRound.l1
      repeat' first
      | (with_reducible exact ih0 _ _ _)
      | (with_reducible exact ih1 _ _ _ _)
      | (with_reducible exact ih2 _ _ _ _ _ _)
      | (with_reducible exact ih3 _ _ _ _ _)
      | (with_reducible exact ih4 _ _ _ _ _)
      | (with_reducible exact LeO.refl _)
      | (with_reducible exact LeO.none _)
      | (with_reducible refine LeO.ite ?_ ?_)
      | (with_reducible refine LeO.bind ?_ (fun _ => ?_))
      | exact ih0 _ _ _
      | exact ih1 _ _ _ _
      | exact ih2 _ _ _ _ _ _
      | exact ih3 _ _ _ _ _
      | exact ih4 _ _ _ _ _
      | exact LeO.none _
      | refine LeO.ite ?_ ?_
      | refine LeO.bind ?_ (fun _ => ?_)
    · intro y0 y1 y2 y3 y4
      unfold capstanlaw23_SlotRound.l2
      repeat' first
      | (with_reducible exact ih0 _ _ _)
      | (with_reducible exact ih1 _ _ _ _)
      | (with_reducible exact ih2 _ _ _ _ _ _)
      | (with_reducible exact ih3 _ _ _ _ _)
      | (with_reducible exact ih4 _ _ _ _ _)
      | (with_reducible exact LeO.refl _)
      | (with_reducible exact LeO.none _)
      | (with_reducible refine LeO.ite ?_ ?_)
      | (with_reducible refine LeO.bind ?_ (fun _ => ?_))
      | exact ih0 _ _ _
      | exact ih1 _ _ _ _
      | exact ih2 _ _ _ _ _ _
      | exact ih3 _ _ _ _ _
      | exact ih4 _ _ _ _ _
      | exact LeO.none _
      | refine LeO.ite ?_ ?_
      | refine LeO.bind ?_ (fun _ => ?_)
theorem capstanlaw23_SlotRound.mono : ∀ a0 a1 k, LeO (capstanlaw23_SlotRound.f k a0 a1) (capstanlaw23_SlotRound.f (k + 1) a0 a1) := by
  intro a0 a1 k
  obtain ⟨ih0, ih1, ih2, ih3, ih4⟩ := capstanlaw23_SlotRound.mono_l k
  unfold capstanlaw23_SlotRound.f
  repeat' first
      | (with_reducible exact ih0 _ _ _)
      | (with_reducible exact ih1 _ _ _ _)
      | (with_reducible exact ih2 _ _ _ _ _ _)
      | (with_reducible exact ih3 _ _ _ _ _)
      | (with_reducible exact ih4 _ _ _ _ _)
      | (with_reducible exact LeO.refl _)
      | (with_reducible exact LeO.none _)
      | (with_reducible refine LeO.ite ?_ ?_)
      | (with_reducible refine LeO.bind ?_ (fun _ => ?_))
      | exact ih0 _ _ _
      | exact ih1 _ _ _ _
      | exact ih2 _ _ _ _ _ _
      | exact ih3 _ _ _ _ _
      | exact ih4 _ _ _ _ _
      | exact LeO.none _
      | refine LeO.ite ?_ ?_
      | refine LeO.bind ?_ (fun _ => ?_)
set_option maxHeartbeats 8000000 in
set_option maxRecDepth 100000 in
theorem capstanlaw23_SlotRound.calls (k : Nat) (a0 : Int) (a1 : Int) (r : Bool) (w : World) (h : capstanlaw23_SlotRound.f k a0 a1 = some r) :
    Calls Try.prog 5 #[.int .i64 a0, .int .i64 a1] w fun e w' => e = .returned (.bool r) ∧ Below w.heap.size w w' := by
  have hu33 := Try.underlying33
  have hu31 := Try.underlying31
  have HB := Aside0.mk (Below.refl w.heap.size w)
  have H : ((capstanlaw23_awake.f).bind fun t119 => (if t119 = true then (if a0 < 1 then (capstanlaw23_SlotRound.j0 k a0 a1 true) else (if a0 > 60 then (capstanlaw23_SlotRound.j0 k a0 a1 true) else (if a1 < 0 then (capstanlaw23_SlotRound.j0 k a0 a1 true) else (capstanlaw23_SlotRound.j0 k a0 a1 (decide (a1 > 300)))))) else (some false))) = some r := h
  clear h
  replace H := Option.bind_eq_some_iff.mp H
  obtain ⟨t119, A30, H⟩ := H
  replace H : (if t119 = true then (if a0 < 1 then (capstanlaw23_SlotRound.j0 k a0 a1 true) else (if a0 > 60 then (capstanlaw23_SlotRound.j0 k a0 a1 true) else (if a1 < 0 then (capstanlaw23_SlotRound.j0 k a0 a1 true) else (capstanlaw23_SlotRound.j0 k a0 a1 (decide (a1 > 300)))))) else (some false)) = some r := H
  have A3 := Aside0.mk A30
  clear A30
  by_cases c4 : t119 = true
  · subst c4
    have H1 : (if a0 < 1 then (capstanlaw23_SlotRound.j0 k a0 a1 true) else (if a0 > 60 then (capstanlaw23_SlotRound.j0 k a0 a1 true) else (if a1 < 0 then (capstanlaw23_SlotRound.j0 k a0 a1 true) else (capstanlaw23_SlotRound.j0 k a0 a1 (decide (a1 > 300)))))) = some r := by rw [if_pos rfl] at H; exact H
    clear H
    have H := H1
    clear H1
    have HC5 := Aside0.mk H
    clear H
    go_enter Try.func5, Try.ntmps5
    go_upto_region 3 with (first | ((with_reducible refine gate_callee (f := 10) rfl ?_); refine goesL_ (some 14) rfl rfl Try.func10 (by kernel_rfl) rfl #[] rfl (by (try simp only [List.map_toArray, List.map_cons, List.map_nil]); first | done | rfl | (simp only [List.length_drop, List.length_take]; rfl)) ?_; (with_reducible refine (capstanlaw23_awake.calls  true _ A3.out).mono ?_); rintro e w6 ⟨rfl, hb⟩; refine ⟨_, rfl, ?_⟩; have n0_ := Aside0.mk (below_step (by repeat (first | (with_reducible first | exact HB.out | apply below_alloc | apply pw_below_drewN | apply below_drew1) | exact HB.out)) hb); clear HB; have HB := n0_; clear n0_; (try clear hb); (try clear hb2); (try clear hk); (try clear hi)))
    (try simp only [Act.put, List.setIfInBounds_toArray, List.set_cons_zero, List.set_cons_succ])
    go_cut [29] (fun v29 wc => ∃ (kq : Nat) (x29_4 : Bool), v29 = .bool x29_4 ∧ Aside0 (capstanlaw23_SlotRound.j0 kq a0 a1 x29_4 = some r) ∧ Aside0 (kq ≤ k) ∧ Aside0 (Below w.heap.size w wc))
    case first =>
      have H := HC5.out
      clear HC5
      by_cases c7 : a0 < 1
      · rw [if_pos c7] at H
        have c7b0 : decide (a0 < 1) = true := decide_eq_true c7
        clear c7
        (first | rw [c7b0] | (simp only [i64_w, i32_w]; rw [c7b0]) | skip)
        have H' := Aside0.mk H
        clear H
        go_wp2
        go_meet
        case rel => exact ⟨_, (true), (by first | rfl | (simp; done) | (simp [*]; done)), H', ⟨by first | omega | exact Nat.le_refl _⟩, ⟨by repeat (first | (with_reducible first | exact HB.out | apply below_alloc | apply pw_below_drewN | apply below_drew1) | exact HB.out)⟩⟩
      · rw [if_neg c7] at H
        have c7b0 : decide (a0 < 1) = false := decide_eq_false c7
        clear c7
        (first | rw [c7b0] | (simp only [i64_w, i32_w]; rw [c7b0]) | skip)
        by_cases c8 : a0 > 60
        · rw [if_pos c8] at H
          have c8b0 : decide (60 < a0) = true := decide_eq_true c8
          clear c8
          have H' := Aside0.mk H
          clear H
          go_wp2
          go_meet
          case rel => exact ⟨_, (true), (by first | rfl | (simp; done) | (simp [*]; done)), H', ⟨by first | omega | exact Nat.le_refl _⟩, ⟨by repeat (first | (with_reducible first | exact HB.out | apply below_alloc | apply pw_below_drewN | apply below_drew1) | exact HB.out)⟩⟩
        · rw [if_neg c8] at H
          have c8b0 : decide (60 < a0) = false := decide_eq_false c8
          clear c8
          by_cases c9 : a1 < 0
          · rw [if_pos c9] at H
            have c9b0 : decide (a1 < 0) = true := decide_eq_true c9
            clear c9
            have H' := Aside0.mk H
            clear H
            go_wp2
            go_meet
            case rel => exact ⟨_, (true), (by first | rfl | (simp; done) | (simp [*]; done)), H', ⟨by first | omega | exact Nat.le_refl _⟩, ⟨by repeat (first | (with_reducible first | exact HB.out | apply below_alloc | apply pw_below_drewN | apply below_drew1) | exact HB.out)⟩⟩
          · rw [if_neg c9] at H
            have c9b0 : decide (a1 < 0) = false := decide_eq_false c9
            clear c9
            have H' := Aside0.mk H
            clear H
            go_wp2
            go_meet
            case rel => exact ⟨_, (decide (a1 > 300)), (by first | rfl | (simp; done) | (simp [*]; done)), H', ⟨by first | omega | exact Nat.le_refl _⟩, ⟨by repeat (first | (with_reducible first | exact HB.out | apply below_alloc | apply pw_below_drewN | apply below_drew1) | exact HB.out)⟩⟩
    case rest =>
      clear HC5
      try clear c1
      try clear p2
      try clear c4
      try clear c5
      try clear c7
      try clear c7b0
      try clear c8
      try clear c8b0
      try clear c9
      try clear c9b0
      obtain ⟨kq, x29_4, rfl, HA, HJ4, HB⟩ := hcut
      cases kq with
      | zero => exact absurd HA.out (by simp [capstanlaw23_SlotRound.j0])
      | succ kj4 =>
        have H := HA.out
        clear HA
        simp only [capstanlaw23_SlotRound.j0] at H
        by_cases c10 : x29_4 = true
        · subst c10
          have H1 : (some true) = some r := by rw [if_pos rfl] at H; exact H
          clear H
          have H := H1
          clear H1
          obtain rfl := Option.some.inj H
          go_wp2
          go_ret
          exact ⟨by first | rfl | (simp [errW_none, errW_some] <;> rfl) | (simp [*, errW_none, errW_some] <;> rfl), by repeat (first | (with_reducible first | exact HB.out | apply below_alloc | apply pw_below_drewN | apply below_drew1) | exact HB.out)⟩
        · replace c10 := Bool.eq_false_iff.mpr c10
          subst c10
          have H1 : (if 0 ≤ a0 then (if (a0 : Int).toNat ≤ 3198579280802 then (capstanlaw23_SlotRound.l0 kj4 a0 a1 (List.replicate (a0 : Int).toNat z33) 1) else (none)) else (none)) = some r := by rw [if_neg (show ¬ (false = true) by decide)] at H; exact H
          clear H
          have H := H1
          clear H1
          by_cases c11 : 0 ≤ a0
          · rw [if_pos c11] at H
            have c11b0 := eq_true c11
            have c11b1 : decide (0 ≤ a0) = true := decide_eq_true c11
            clear c11
            by_cases c12 : (a0 : Int).toNat ≤ 3198579280802
            · rw [if_pos c12] at H
              have c12b0 := eq_true c12
              have c12b1 : decide ((a0 : Int).toNat ≤ 3198579280802) = true := decide_eq_true c12
              clear c12
              obtain ⟨y120, hy120⟩ : ∃ y_ : List (S33), y_ = (List.replicate (a0 : Int).toNat z33) := ⟨_, rfl⟩
              replace H : (capstanlaw23_SlotRound.l0 kj4 a0 a1 y120 1) = some r := by first | (rw [hy120]; with_reducible exact H) | (have H2_ := (Option.bind_some _ _).symm.trans H; rw [hy120]; with_reducible exact H2_) | (have H2_ := (Option.bind_some _ _).symm.trans H; with_reducible exact H2_) | with_reducible exact H | (rw [hy120]; exact H) | exact H
              have Ny120 := Aside0.mk hy120
              clear hy120
              have H' := Aside0.mk H
              clear H
              go_wp2_with (first | ((with_reducible refine gate_dst (N := 31) rfl ?_); refine Kd.S_make k33 _ 33 rfl (N := 31) rfl 37 _ _ rfl a0 rfl rfl Try.underlying37 (.agg #[(.int .i64 0), (.int .i64 0), (.int .i64 0), (.int .u8 0), (.int .i64 0), (.slice none 0 0), (.slice none 0 0)]) 88 info33 rfl (by decide) (by omega) z33 (ok := fun _ => True) (okp := fun _ => True) (k33_mkM _ _ _ z33 (Kd.R_nil _ _ _ _ _) (Kd.R_nil _ _ _ _ _)) (fun _ hk => hk) trivial (of_decide_eq_true (by first | (with_reducible assumption) | assumption)) (Nat.le_trans (Nat.mul_le_mul_right _ (of_decide_eq_true (by first | (with_reducible assumption) | assumption) : a0.toNat ≤ 3198579280802)) (by omega)) (Below.refl _ _) (Nat.le_refl _) ?_; intro v121 w13 ho14 hb hg_ hnew_; clear hg_ hnew_; (first | rw [← Ny120.out] at ho14 | (simp only [Int.reduceToNat] at ho14; rw [← Ny120.out] at ho14)); have n0_ := Aside0.mk (Kd.S_lower ho14 (below_size (by repeat (first | (with_reducible first | exact HB.out | apply below_alloc | apply pw_below_drewN | apply below_drew1) | exact HB.out)))); have n1_ := Aside0.mk (below_step (by repeat (first | (with_reducible first | exact HB.out | apply below_alloc | apply pw_below_drewN | apply below_drew1) | exact HB.out)) hb); clear HB; have HO122 := n0_; have HB := n1_; clear n0_ n1_; clear hb ho14))
              go_loopg [6] kj4 (fun kq v6 w' => ∃ (x5_2 : List (S33)) (x6_2 : Int), v6 = .int .i64 x6_2 ∧ Aside0 (capstanlaw23_SlotRound.l0 kq a0 a1 x5_2 x6_2 = some r) ∧ Aside0 (kq ≤ kj4) ∧ Aside0 (Kd.S k33 33 w' w.heap.size (fun _ => True) v121 x5_2) ∧ Aside0 (Below w.heap.size w w'))
              case atStart => exact ⟨(y120), (1), (by first | rfl | (simp; done) | (simp [*]; done)), H', ⟨Nat.le_refl _⟩, ⟨by (with_reducible repeat (first | apply Kd.S_alloc | apply Kd.S_drewN | apply Kd.S_drew)); exact HO122.out⟩, ⟨by repeat (first | (with_reducible first | exact HB.out | apply below_alloc | apply pw_below_drewN | apply below_drew1) | exact HB.out)⟩⟩
              case round =>
                clear H'
                try clear c1
                try clear p2
                try clear c4
                try clear c5
                try clear c7
                try clear c7b0
                try clear c8
                try clear c8b0
                try clear c9
                try clear c9b0
                try clear c10
                try clear c11
                try clear c11b0
                try clear c11b1
                try clear c12
                try clear c12b0
                try clear c12b1
                try clear p2
                obtain ⟨x5_2, x6_2, rfl, HA, HK2, HO_5, HB⟩ := hrel
                cases gk with
                | zero => exact absurd HA.out (by simp [capstanlaw23_SlotRound.l0])
                | succ k2 =>
                  have H := HA.out
                  clear HA
                  simp only [capstanlaw23_SlotRound.l0] at H
                  by_cases c15 : x6_2 ≤ a1
                  · rw [if_pos c15] at H
                    have c15b0 : decide (x6_2 ≤ a1) = true := decide_eq_true c15
                    clear c15
                    replace H := Option.bind_eq_some_iff.mp H
                    obtain ⟨t123, A160, H⟩ := H
                    replace H : (if t123 < 0 then (capstanlaw23_SlotRound.j2 k2 a0 a1 x5_2 x6_2 t123 true) else (if t123 ≥ a0 then (capstanlaw23_SlotRound.j2 k2 a0 a1 x5_2 x6_2 t123 true) else (if 0 ≤ t123 then (if t123 < (x5_2.length : Int) then ((slot_Is.f ((rd_T33 x5_2 t123).f0) ((rd_T33 x5_2 t123).f1.f0) ((rd_T33 x5_2 t123).f1.f1) ((rd_T33 x5_2 t123).f1.f2.f0) ((rd_T33 x5_2 t123).f1.f2.f1) ((rd_T33 x5_2 t123).f1.f2.f2) ((rd_T33 x5_2 t123).f1.f2.f3) x6_2 a0).bind fun t125 => (capstanlaw23_SlotRound.j2 k2 a0 a1 x5_2 x6_2 t123 (t125 != 1))) else (none)) else (none)))) = some r := H
                    have A16 := Aside0.mk A160
                    clear A160
                    have HC17 := Aside0.mk H
                    clear H
                    go_upto_region 10 with (first | ((with_reducible refine gate_callee (f := 11) rfl ?_); refine goesL_ (some 39) rfl rfl Try.func11 (by kernel_rfl) rfl #[.int .i64 x6_2, .int .i64 a0] rfl (by (try simp only [List.map_toArray, List.map_cons, List.map_nil]); first | done | rfl | (simp only [List.length_drop, List.length_take]; rfl)) ?_; (with_reducible refine (slot_Place.calls x6_2 a0 t123 _ A16.out).mono ?_); rintro e w' ⟨rfl, ⟨nd, rfl⟩⟩; refine ⟨_, rfl, ?_⟩))
                    (try simp only [Act.put, List.setIfInBounds_toArray, List.set_cons_zero, List.set_cons_succ])
                    go_cut [56] (fun v56 wc => ∃ (kq : Nat) (x56_16 : Bool), v56 = .bool x56_16 ∧ Aside0 (capstanlaw23_SlotRound.j2 kq a0 a1 x5_2 x6_2 t123 x56_16 = some r) ∧ Aside0 (kq ≤ k2) ∧ Aside0 (Kd.S k33 33 wc w.heap.size (fun _ => True) v121 x5_2) ∧ Aside0 (Below w.heap.size w wc))
                    case first =>
                      have H := HC17.out
                      clear HC17
                      by_cases c18 : t123 < 0
                      · rw [if_pos c18] at H
                        have c18b0 : decide (t123 < 0) = true := decide_eq_true c18
                        clear c18
                        (first | rw [c18b0] | (simp only [i64_w, i32_w]; rw [c18b0]) | skip)
                        have H' := Aside0.mk H
                        clear H
                        go_wp2
                        go_meet
                        case rel => exact ⟨_, (true), (by first | rfl | (simp; done) | (simp [*]; done)), H', ⟨by have := HJ4.out; have := HK2.out; first | omega | exact Nat.le_refl _⟩, ⟨by (with_reducible repeat (first | apply Kd.S_alloc | apply Kd.S_drewN | apply Kd.S_drew)); exact HO_5.out⟩, ⟨by repeat (first | (with_reducible first | exact HB.out | apply below_alloc | apply pw_below_drewN | apply below_drew1) | exact HB.out)⟩⟩
                      · rw [if_neg c18] at H
                        have c18b0 : decide (t123 < 0) = false := decide_eq_false c18
                        clear c18
                        (first | rw [c18b0] | (simp only [i64_w, i32_w]; rw [c18b0]) | skip)
                        by_cases c19 : t123 ≥ a0
                        · rw [if_pos c19] at H
                          have c19b0 : decide (a0 ≤ t123) = true := decide_eq_true c19
                          clear c19
                          have H' := Aside0.mk H
                          clear H
                          go_wp2
                          go_meet
                          case rel => exact ⟨_, (true), (by first | rfl | (simp; done) | (simp [*]; done)), H', ⟨by have := HJ4.out; have := HK2.out; first | omega | exact Nat.le_refl _⟩, ⟨by (with_reducible repeat (first | apply Kd.S_alloc | apply Kd.S_drewN | apply Kd.S_drew)); exact HO_5.out⟩, ⟨by repeat (first | (with_reducible first | exact HB.out | apply below_alloc | apply pw_below_drewN | apply below_drew1) | exact HB.out)⟩⟩
                        · rw [if_neg c19] at H
                          have c19b0 : decide (a0 ≤ t123) = false := decide_eq_false c19
                          clear c19
                          by_cases c20 : 0 ≤ t123
                          · rw [if_pos c20] at H
                            have c20b0 : decide (0 ≤ t123) = true := decide_eq_true c20
                            clear c20
                            by_cases c21 : t123 < (x5_2.length : Int)
                            · rw [if_pos c21] at H
                              have c21b0 : decide (t123 < (x5_2.length : Int)) = true := decide_eq_true c21
                              clear c21
                              replace H := Option.bind_eq_some_iff.mp H
                              obtain ⟨t125, A220, H⟩ := H
                              replace H : (capstanlaw23_SlotRound.j2 k2 a0 a1 x5_2 x6_2 t123 (t125 != 1)) = some r := H
                              have A22 := Aside0.mk A220
                              clear A220
                              have H' := Aside0.mk H
                              clear H
                              obtain ⟨Ao23, co23, eo23⟩ := Kd.S_slice HO_5.out
                              subst eo23
                              have p124 : 0 ≤ (t123 : Int) := of_decide_eq_true (by first | (with_reducible assumption) | assumption)
                              have q124 : t123 < (x5_2.length : Int) := of_decide_eq_true (by first | (with_reducible assumption) | assumption)
                              obtain ⟨ad124, A124_5, c124_5, A124_6, c124_6, e124, hx124_0, hx124_1, hx124_2, hx124_3, hx124_4, hx124_5, hx124_6, hl124_5, hi124_5, hl124_6, hi124_6⟩ := at_T33 (Kd.S_reads' HO_5.out).2.2 t123 p124 q124
                              cases e124
                              obtain ⟨ce124, hce124, hMe124, hcc124⟩ := Kd.S_get HO_5.out z33 t123 p124 (by first | exact q124 | exact of_decide_eq_true (by first | (with_reducible assumption) | assumption) | (have e_ := (Kd.S_reads' HO_5.out).1; omega))
                              obtain ⟨ve124_5, ve124_6, rfl, ge124_5, ge124_6⟩ := k33_openM hMe124
                              have hv124_5 := hcc124 5 _ rfl
                              rw [add_field _ _ 5 (by omega)] at hv124_5
                              replace hv124_5 := Option.some.inj (hv124_5.symm.trans hx124_5)
                              rw [hv124_5] at ge124_5
                              have HL124_5 := Aside0.mk (show Kd.R k91 91 _ _ _ _ ((rd_T33 x5_2 t123).f1.f2.f2) from ge124_5)
                              clear hv124_5 ge124_5
                              have hv124_6 := hcc124 6 _ rfl
                              rw [add_field _ _ 6 (by omega)] at hv124_6
                              replace hv124_6 := Option.some.inj (hv124_6.symm.trans hx124_6)
                              rw [hv124_6] at ge124_6
                              have HL124_6 := Aside0.mk (show Kd.R (Kd.int .u8) 5 _ _ _ _ ((rd_T33 x5_2 t123).f1.f2.f3) from ge124_6)
                              clear hv124_6 ge124_6
                              clear hcc124 hce124
                              have HR124_5 := Aside0.mk hi124_5
                              have HC124_5 := Aside0.mk hl124_5
                              clear hi124_5 hl124_5
                              have HR124_6 := Aside0.mk hi124_6
                              have HC124_6 := Aside0.mk hl124_6
                              clear hi124_6 hl124_6
                              replace p124 := eq_true p124
                              replace q124 := eq_true q124
                              go_wp2_with (first | (go_at_call 14; (with_reducible refine (slot_Is.calls ((rd_T33 x5_2 t123).f0) ((rd_T33 x5_2 t123).f1.f0) ((rd_T33 x5_2 t123).f1.f1) ((rd_T33 x5_2 t123).f1.f2.f0) ((rd_T33 x5_2 t123).f1.f2.f1) _ _ ((rd_T33 x5_2 t123).f1.f2.f2) _ _ ((rd_T33 x5_2 t123).f1.f2.f3) x6_2 a0 t125 _ ?side1 ?side2 ?side3 ?side4 A22.out).mono ?_); (case side1 => repeat (first | exact (by repeat (first | (with_reducible exact HR124_5.out) | (with_reducible refine Kd.C_alloc ?_ _) | (with_reducible refine Kd.C_drewN ?_ _) | (with_reducible refine Kd.C_drew ?_) | exact HR124_5.out)) | (with_reducible refine Kd.C_alloc ?_ _) | (with_reducible refine Kd.C_drewN ?_ _) | (with_reducible refine Kd.C_drew ?_))); (case side2 => exact HC124_5.out); (case side3 => repeat (first | exact (by repeat (first | (with_reducible exact HR124_6.out) | (with_reducible refine Kd.C_alloc ?_ _) | (with_reducible refine Kd.C_drewN ?_ _) | (with_reducible refine Kd.C_drew ?_) | exact HR124_6.out)) | (with_reducible refine Kd.C_alloc ?_ _) | (with_reducible refine Kd.C_drewN ?_ _) | (with_reducible refine Kd.C_drew ?_))); (case side4 => exact HC124_6.out); rintro e w24 ⟨rfl, hb⟩; have n0_ := Aside0.mk (Kd.S_below (by (with_reducible repeat (first | apply Kd.S_alloc | apply Kd.S_drewN | apply Kd.S_drew)); exact HO_5.out) hb); have n1_ := Aside0.mk (Kd.R_below (by (with_reducible repeat (first | apply Kd.R_alloc | apply Kd.R_drewN | apply Kd.R_drew)); exact HL124_5.out) hb); have n2_ := Aside0.mk (Kd.R_below (by (with_reducible repeat (first | apply Kd.R_alloc | apply Kd.R_drewN | apply Kd.R_drew)); exact HL124_6.out) hb); have n3_ := Aside0.mk (Kd.C_below (by repeat (first | (with_reducible exact HR124_5.out) | (with_reducible refine Kd.C_alloc ?_ _) | (with_reducible refine Kd.C_drewN ?_ _) | (with_reducible refine Kd.C_drew ?_) | exact HR124_5.out)) hb); have n4_ := Aside0.mk (Kd.C_below (by repeat (first | (with_reducible exact HR124_6.out) | (with_reducible refine Kd.C_alloc ?_ _) | (with_reducible refine Kd.C_drewN ?_ _) | (with_reducible refine Kd.C_drew ?_) | exact HR124_6.out)) hb); have n5_ := Aside0.mk (below_step (by repeat (first | (with_reducible first | exact HB.out | apply below_alloc | apply pw_below_drewN | apply below_drew1) | exact HB.out)) hb); clear HO_5; clear HL124_5; clear HL124_6; clear HR124_5; clear HR124_6; clear HB; have HO_5 := n0_; have HL124_5 := n1_; have HL124_6 := n2_; have HR124_5 := n3_; have HR124_6 := n4_; have HB := n5_; clear n0_ n1_ n2_ n3_ n4_ n5_; (try clear hb); (try clear hb2); (try clear hk); (try clear hi)))
                              go_meet
                              case rel => exact ⟨_, ((t125 != 1)), (by first | rfl | (simp; done) | (simp [*]; done)), H', ⟨by have := HJ4.out; have := HK2.out; first | omega | exact Nat.le_refl _⟩, ⟨by (with_reducible repeat (first | apply Kd.S_alloc | apply Kd.S_drewN | apply Kd.S_drew)); exact HO_5.out⟩, ⟨by repeat (first | (with_reducible first | exact HB.out | apply below_alloc | apply pw_below_drewN | apply below_drew1) | exact HB.out)⟩⟩
                            · rw [if_neg c21] at H
                              exact absurd H (by simp)
                          · rw [if_neg c20] at H
                            exact absurd H (by simp)
                    case rest =>
                      clear HC17
                      try clear c1
                      try clear p1
                      try clear q1
                      try clear hx1
                      try clear c2
                      try clear p2
                      try clear c4
                      try clear c5
                      try clear c7
                      try clear c7b0
                      try clear c8
                      try clear c8b0
                      try clear c9
                      try clear c9b0
                      try clear c10
                      try clear c11
                      try clear c11b0
                      try clear c11b1
                      try clear c12
                      try clear c12b0
                      try clear c12b1
                      try clear p12
                      try clear q12
                      try clear hx12
                      try clear c15
                      try clear c15b0
                      try clear c18
                      try clear c18b0
                      try clear c19
                      try clear c19b0
                      try clear c20
                      try clear c20b0
                      try clear c21
                      try clear c21b0
                      try clear hx124_0
                      try clear hx124_1
                      try clear hx124_2
                      try clear hx124_3
                      try clear hx124_4
                      try clear hx124_5
                      try clear hx124_6
                      try clear p124
                      try clear p2
                      try clear q124
                      obtain ⟨kq, x56_16, rfl, HA, HJ16, HO_5, HB⟩ := hcut
                      cases kq with
                      | zero => exact absurd HA.out (by simp [capstanlaw23_SlotRound.j2])
                      | succ kj16 =>
                        have H := HA.out
                        clear HA
                        simp only [capstanlaw23_SlotRound.j2] at H
                        by_cases c25 : x56_16 = true
                        · subst c25
                          have H1 : (some false) = some r := by rw [if_pos rfl] at H; exact H
                          clear H
                          have H := H1
                          clear H1
                          obtain rfl := Option.some.inj H
                          go_wp2
                          go_ret
                          exact ⟨by first | rfl | (simp [errW_none, errW_some] <;> rfl) | (simp [*, errW_none, errW_some] <;> rfl), by repeat (first | (with_reducible first | exact HB.out | apply below_alloc | apply pw_below_drewN | apply below_drew1) | exact HB.out)⟩
                        · replace c25 := Bool.eq_false_iff.mpr c25
                          subst c25
                          have H1 : ((slot_Next.f x6_2 0 x6_2 0 0 ([] : List (S91)) ([] : List Int)).bind fun bt126 => (if 0 ≤ t123 then (if t123 < (x5_2.length : Int) then (capstanlaw23_SlotRound.l1 kj16 a0 a1 (x5_2.set (t123 : Int).toNat (⟨bt126.1, (⟨bt126.2.1, bt126.2.2.1, (⟨bt126.2.2.2.1, bt126.2.2.2.2.1, bt126.2.2.2.2.2.1, bt126.2.2.2.2.2.2⟩ : S29)⟩ : S31)⟩ : S33)) x6_2 1) else (none)) else (none))) = some r := by rw [if_neg (show ¬ (false = true) by decide)] at H; exact H
                          clear H
                          have H := H1
                          clear H1
                          replace H := Option.bind_eq_some_iff.mp H
                          obtain ⟨⟨t126, t127, t128, t129, t130, t131, t134⟩, A260, H⟩ := H
                          replace H : (if 0 ≤ t123 then (if t123 < (x5_2.length : Int) then (capstanlaw23_SlotRound.l1 kj16 a0 a1 (x5_2.set (t123 : Int).toNat (⟨t126, (⟨t127, t128, (⟨t129, t130, t131, t134⟩ : S29)⟩ : S31)⟩ : S33)) x6_2 1) else (none)) else (none)) = some r := H
                          have A26 := Aside0.mk A260
                          clear A260
                          by_cases c27 : 0 ≤ t123
                          · rw [if_pos c27] at H
                            have c27b0 : decide (0 ≤ t123) = true := decide_eq_true c27
                            clear c27
                            by_cases c28 : t123 < (x5_2.length : Int)
                            · rw [if_pos c28] at H
                              have c28b0 : decide (t123 < (x5_2.length : Int)) = true := decide_eq_true c28
                              clear c28
                              obtain ⟨y137, hy137⟩ : ∃ y_ : List (S33), y_ = (x5_2.set (t123 : Int).toNat (⟨t126, (⟨t127, t128, (⟨t129, t130, t131, t134⟩ : S29)⟩ : S31)⟩ : S33)) := ⟨_, rfl⟩
                              replace H : (capstanlaw23_SlotRound.l1 kj16 a0 a1 y137 x6_2 1) = some r := by first | (rw [hy137]; with_reducible exact H) | (have H2_ := (Option.bind_some _ _).symm.trans H; rw [hy137]; with_reducible exact H2_) | (have H2_ := (Option.bind_some _ _).symm.trans H; with_reducible exact H2_) | with_reducible exact H | (rw [hy137]; exact H) | exact H
                              have Ny137 := Aside0.mk hy137
                              clear hy137
                              have H' := Aside0.mk H
                              clear H
                              go_wp2_with (first | ((with_reducible refine gate_callee (f := 12) rfl ?_); refine goesL_ (some 62) rfl rfl Try.func12 (by kernel_rfl) rfl #[.int .i64 x6_2, .agg #[.int .i64 0, .int .i64 x6_2, .int .u8 0, .int .i64 0, .slice none 0 0, .slice none 0 0]] rfl (by (try simp only [List.map_toArray, List.map_cons, List.map_nil]); first | done | rfl | (simp only [List.length_drop, List.length_take]; rfl)) ?_; (refine (slot_Next.calls x6_2 0 x6_2 0 0 (fun k_ => some k_ = (.slice none 0 0 : Value).ownBlock) (.slice none 0 0) ([] : List (S91)) (fun k_ => some k_ = (.slice none 0 0 : Value).ownBlock) (.slice none 0 0) ([] : List Int) t126 t127 t128 t129 t130 t131 t134 w _ ?side1 ?side2 ?side3 A26.out).mono ?_); (case side1 => repeat (first | (with_reducible first | exact HB.out | apply below_alloc | apply pw_below_drewN | apply below_drew1) | exact HB.out)); (case side2 => exact Kd.R_nil _ _ _ _ _); (case side3 => exact Kd.R_nil _ _ _ _ _); rintro e w30 ⟨v132_, v135_, rfl, ho0, ho1, hb, hkp⟩; obtain ⟨A132, c132, e132⟩ := Kd.R_slice ho0; subst e132; obtain ⟨A135, c135, e135⟩ := Kd.R_slice ho1; subst e135; refine ⟨_, rfl, ?_⟩; have n0_ := Aside0.mk (Kd.S_mono (ok' := fun k_ => some k_ ≠ (.slice A132 t131.length c132 : Value).ownBlock ∧ some k_ ≠ (.slice A135 t134.length c135 : Value).ownBlock) (Kd.S_keptB (HO_5.out) hkp (fun k_ hk_ hs_ => Or.elim hs_ (fun e_ => (fun e_ => by simp [Value.ownBlock] at e_) e_) (fun e_ => (fun e_ => by simp [Value.ownBlock] at e_) e_))) (fun k_ hk_ => ⟨fun e_ => Or.elim (ho0.1 k_ e_.symm) (fun hs_ => hk_.2.1 hs_) (fun hn_ => Nat.not_le.2 hk_.2.2 hn_), fun e_ => Or.elim (ho1.1 k_ e_.symm) (fun hs_ => hk_.2.1 hs_) (fun hn_ => Nat.not_le.2 hk_.2.2 hn_)⟩)); have n1_ := Aside0.mk (Kd.R_mono (ok' := fun k_ => True) ho0 (fun k_ hk_ => trivial)); have n2_ := Aside0.mk (Kd.R_mono (ok' := fun k_ => True) ho1 (fun k_ hk_ => trivial)); have n3_ := Aside0.mk (hb); clear HO_5; clear HB; have HO_5 := n0_; have HO133 := n1_; have HO136 := n2_; have HB := n3_; clear n0_ n1_ n2_ n3_; (try clear hb); (try clear hkp); (try clear ho0); (try clear ho1); have p29 : 0 ≤ (t123 : Int) := of_decide_eq_true (by first | (with_reducible assumption) | assumption); have q29 : (t123 : Int) < ((x5_2.length : Int) : Int) := of_decide_eq_true (by first | (with_reducible assumption) | assumption); obtain ⟨go29, co29, eo29, gb29, gl29, cl29, HG29⟩ := Kd.S_form HO_5.out (by omega); (first | cases eo29 | (injection eo29 with ea_ en_ ec_; (first | subst ea_ | (injection ea_ with ea_; subst ea_)); subst ec_; clear en_)); have GB29 := Aside0.mk gb29; have GG29 := Aside0.mk HG29; clear gb29 gl29 HG29; obtain ⟨_, ce29, hcl29, hM29, hcc29, hfr29, _, _⟩ := Kd.S_elem HO_5.out z33 (t123 : Int) p29 q29; obtain ⟨ve29_5, ve29_6, rfl, ge29_5, ge29_6⟩ := k33_openM hM29; have hx29_0 : w30.cell? ⟨go29, (t123 : Int).toNat * 7, none⟩ = some (.int .i64 ((rd_T33 x5_2 t123).f0)) := hcc29 0 _ rfl; have hx29_1 : w30.cell? ⟨go29, (t123 : Int).toNat * 7 + 1, none⟩ = some (.int .i64 ((rd_T33 x5_2 t123).f1.f0)) := hcc29 1 _ rfl; have hx29_2 : w30.cell? ⟨go29, (t123 : Int).toNat * 7 + 2, none⟩ = some (.int .i64 ((rd_T33 x5_2 t123).f1.f1)) := hcc29 2 _ rfl; have hx29_3 : w30.cell? ⟨go29, (t123 : Int).toNat * 7 + 3, none⟩ = some (.int .u8 ((rd_T33 x5_2 t123).f1.f2.f0)) := hcc29 3 _ rfl; have hx29_4 : w30.cell? ⟨go29, (t123 : Int).toNat * 7 + 4, none⟩ = some (.int .i64 ((rd_T33 x5_2 t123).f1.f2.f1)) := hcc29 4 _ rfl; have hx29_5 : w30.cell? ⟨go29, (t123 : Int).toNat * 7 + 5, none⟩ = some (ve29_5) := hcc29 5 _ rfl; have hx29_6 : w30.cell? ⟨go29, (t123 : Int).toNat * 7 + 6, none⟩ = some (ve29_6) := hcc29 6 _ rfl; have hf29_0 : w30.frozen? ⟨go29, (t123 : Int).toNat * 7, none⟩ = false := hfr29 0; have hf29_1 : w30.frozen? ⟨go29, (t123 : Int).toNat * 7 + 1, none⟩ = false := hfr29 1; have hf29_2 : w30.frozen? ⟨go29, (t123 : Int).toNat * 7 + 2, none⟩ = false := hfr29 2; have hf29_3 : w30.frozen? ⟨go29, (t123 : Int).toNat * 7 + 3, none⟩ = false := hfr29 3; have hf29_4 : w30.frozen? ⟨go29, (t123 : Int).toNat * 7 + 4, none⟩ = false := hfr29 4; have hf29_5 : w30.frozen? ⟨go29, (t123 : Int).toNat * 7 + 5, none⟩ = false := hfr29 5; have hf29_6 : w30.frozen? ⟨go29, (t123 : Int).toNat * 7 + 6, none⟩ = false := hfr29 6; clear hcl29 hcc29 hfr29 hM29; replace p29 := eq_true p29; replace q29 := eq_true q29; have HX31 := Aside0.mk (show Kd.S k33 33 w30 w.heap.size (fun k_ => ((fun _ => True)) k_ ∧ ¬ ((fun k_ => some k_ = (.slice A132 t131.length c132 : Value).ownBlock ∨ some k_ = (.slice A135 t134.length c135 : Value).ownBlock)) k_) (.slice (some ⟨go29, 0, none⟩) x5_2.length co29) x5_2 from (by (with_reducible repeat (first | apply Kd.S_alloc | apply Kd.S_drewN | apply Kd.S_drew)); exact Kd.S_mono HO_5.out (fun k_ hk => ⟨trivial, fun e_ => e_.elim (fun h_ => hk.1 h_) (fun h_ => hk.2 h_)⟩))); obtain ⟨oki31, ce31, hcl31, hM31, hcc31, hfr31, hoki31, hH31⟩ := Kd.S_elem HX31.out z33 (t123 : Int) (of_decide_eq_true (by first | (with_reducible assumption) | assumption)) (by have h_ : (t123 : Int) < ((x5_2.length : Int) : Int) := of_decide_eq_true (by first | (with_reducible assumption) | assumption); first | exact h_ | (have e_ := (Kd.S_reads' HO_5.out).1; omega) | simpa using h_); obtain ⟨ve31_5, ve31_6, rfl, ge31_5, ge31_6⟩ := k33_openM hM31; have HP31 := Kd.S_seg hH31 (of_decide_eq_true (by first | (with_reducible assumption) | assumption)) (by have h_ : (t123 : Int) < ((x5_2.length : Int) : Int) := of_decide_eq_true (by first | (with_reducible assumption) | assumption); first | exact h_ | (have e_ := (Kd.S_reads' HO_5.out).1; omega) | simpa using h_) (seg := [.int .i64 t126, .int .i64 t127, .int .i64 t128, .int .u8 t129, .int .i64 t130, (.slice A132 t131.length c132 : Value), (.slice A135 t134.length c135 : Value)]) (j := 0) (show 7 ≤ 7 from by decide) (x' := (⟨t126, (⟨t127, t128, (⟨t129, t130, t131, t134⟩ : S29)⟩ : S31)⟩ : S33)) (k33_mkM _ _ _ (⟨t126, (⟨t127, t128, (⟨t129, t130, t131, t134⟩ : S29)⟩ : S31)⟩ : S33) (Kd.R_mono (Kd.R_tight rfl (Kd.R_mono (ok' := fun k_ => ((fun _ => True)) k_ ∧ k_ ≠ go29) (Kd.R_apart' (HO133.out) (Kd.S_typed HO_5.out) (by decide)) (fun k_ hk => ⟨trivial, fun e_ => (hk.2) (by rw [e_]; rfl)⟩))) (fun _ h_ => Or.inr (Or.inl h_))) (Kd.R_mono (Kd.R_tight rfl (Kd.R_mono (ok' := fun k_ => ((fun _ => True)) k_ ∧ k_ ≠ go29) (Kd.R_apart' (HO136.out) (Kd.S_typed HO_5.out) (by decide)) (fun k_ hk => ⟨trivial, fun e_ => (hk.2) (by rw [e_]; rfl)⟩))) (fun _ h_ => Or.inr (Or.inr (h_))))) (fun _ hk => hk) (fun k_ hk_ => hk_.elim (fun h_ => ((Kd.R_mono (ok' := fun k_ => ((fun _ => True)) k_ ∧ k_ ≠ go29) (Kd.R_apart' (HO133.out) (Kd.S_typed HO_5.out) (by decide)) (fun k_ hk => ⟨trivial, fun e_ => (hk.2) (by rw [e_]; rfl)⟩))).1 k_ h_.symm) (fun h_ => ((Kd.R_mono (ok' := fun k_ => ((fun _ => True)) k_ ∧ k_ ≠ go29) (Kd.R_apart' (HO136.out) (Kd.S_typed HO_5.out) (by decide)) (fun k_ hk => ⟨trivial, fun e_ => (hk.2) (by rw [e_]; rfl)⟩))).1 k_ h_.symm)); have hx31_0 := hcc31 0 _ rfl; (try simp only [show (k33).sz = 7 from rfl, Nat.mul_one, Nat.add_zero] at hx31_0); have hf31_0 := hfr31 0; (try simp only [show (k33).sz = 7 from rfl, Nat.mul_one, Nat.add_zero] at hf31_0); have hx31_1 := hcc31 1 _ rfl; (try simp only [show (k33).sz = 7 from rfl, Nat.mul_one, Nat.add_zero] at hx31_1); have hf31_1 := hfr31 1; (try simp only [show (k33).sz = 7 from rfl, Nat.mul_one, Nat.add_zero] at hf31_1); have hx31_2 := hcc31 2 _ rfl; (try simp only [show (k33).sz = 7 from rfl, Nat.mul_one, Nat.add_zero] at hx31_2); have hf31_2 := hfr31 2; (try simp only [show (k33).sz = 7 from rfl, Nat.mul_one, Nat.add_zero] at hf31_2); have hx31_3 := hcc31 3 _ rfl; (try simp only [show (k33).sz = 7 from rfl, Nat.mul_one, Nat.add_zero] at hx31_3); have hf31_3 := hfr31 3; (try simp only [show (k33).sz = 7 from rfl, Nat.mul_one, Nat.add_zero] at hf31_3); have hx31_4 := hcc31 4 _ rfl; (try simp only [show (k33).sz = 7 from rfl, Nat.mul_one, Nat.add_zero] at hx31_4); have hf31_4 := hfr31 4; (try simp only [show (k33).sz = 7 from rfl, Nat.mul_one, Nat.add_zero] at hf31_4); have hx31_5 := hcc31 5 _ rfl; (try simp only [show (k33).sz = 7 from rfl, Nat.mul_one, Nat.add_zero] at hx31_5); have hf31_5 := hfr31 5; (try simp only [show (k33).sz = 7 from rfl, Nat.mul_one, Nat.add_zero] at hf31_5); have hx31_6 := hcc31 6 _ rfl; (try simp only [show (k33).sz = 7 from rfl, Nat.mul_one, Nat.add_zero] at hx31_6); have hf31_6 := hfr31 6; (try simp only [show (k33).sz = 7 from rfl, Nat.mul_one, Nat.add_zero] at hf31_6); clear hcl31 hcc31 hfr31 hM31 hoki31 hH31) | ((with_reducible refine gate_store (t := 33) (p := 63) rfl ?_); refine store_event (t := 33) (p := 63) (v := ?vo_w32) (w1 := (((((((w30.setCell ⟨go29, (t123 : Int).toNat * 7, none⟩ (.int .i64 t126)).setCell ⟨go29, (t123 : Int).toNat * 7 + 1, none⟩ (.int .i64 t127)).setCell ⟨go29, (t123 : Int).toNat * 7 + 2, none⟩ (.int .i64 t128)).setCell ⟨go29, (t123 : Int).toNat * 7 + 3, none⟩ (.int .u8 t129)).setCell ⟨go29, (t123 : Int).toNat * 7 + 4, none⟩ (.int .i64 t130)).setCell ⟨go29, (t123 : Int).toNat * 7 + 5, none⟩ ((.slice A132 t131.length c132 : Value))).setCell ⟨go29, (t123 : Int).toNat * 7 + 6, none⟩ ((.slice A135 t134.length c135 : Value)))) ?hg ?ho ?hn ?hr ?_; (case ho => rfl); (case hg => rfl); (case hn => rfl); (case hr => first | (go_simp; done) | (go_simp; rfl)); intro w32 hw; have hg : w30.grownBy w32 (some go29) := (by rw [hw]; exact HP31.2); have hp_ : Kd.S k33 33 w32 w.heap.size (fun _ => True) (.slice (some ⟨go29, 0, none⟩) x5_2.length co29) y137 := (by rw [hw, Ny137.out]; exact HP31.1); clear HP31; have n0_ := Aside0.mk (hp_); have n1_ := Aside0.mk ((by rw [hw]; exact below_set (below_set (below_set (below_set (below_set (below_set (below_set (HB.out) GB29.out) GB29.out) GB29.out) GB29.out) GB29.out) GB29.out) GB29.out : Below w.heap.size w w32)); clear HO_5; clear HB; clear HO133; clear HO136; have HO_5 := n0_; have HB := n1_; clear n0_ n1_; clear hg hw hp_))
                              go_loopg [8] kj16 (fun kq v8 w' => ∃ (x8_4 : Int), v8 = .int .i64 x8_4 ∧ Aside0 (capstanlaw23_SlotRound.l1 kq a0 a1 y137 x6_2 x8_4 = some r) ∧ Aside0 (kq ≤ kj16) ∧ Aside0 (Kd.S k33 33 w' w.heap.size (fun _ => True) (.slice (some ⟨go29, 0, none⟩) x5_2.length co29) y137) ∧ Aside0 (Below w.heap.size w w'))
                              case atStart => exact ⟨(1), (by first | rfl | (simp; done) | (simp [*]; done)), H', ⟨Nat.le_refl _⟩, ⟨by (with_reducible repeat (first | apply Kd.S_alloc | apply Kd.S_drewN | apply Kd.S_drew)); exact HO_5.out⟩, ⟨by repeat (first | (with_reducible first | exact HB.out | apply below_alloc | apply pw_below_drewN | apply below_drew1) | exact HB.out)⟩⟩
                              case round =>
                                clear H'
                                try clear c1
                                try clear p1
                                try clear q1
                                try clear hx1
                                try clear c2
                                try clear p2
                                try clear q2
                                try clear hx2
                                try clear hf2
                                try clear c3
                                try clear hx3
                                try clear hf3
                                try clear c4
                                try clear c5
                                try clear c7
                                try clear c7b0
                                try clear c8
                                try clear c8b0
                                try clear c9
                                try clear c9b0
                                try clear c10
                                try clear c11
                                try clear c11b0
                                try clear c11b1
                                try clear c12
                                try clear c12b0
                                try clear c12b1
                                try clear p12
                                try clear q12
                                try clear hx12
                                try clear c15
                                try clear c15b0
                                try clear c18
                                try clear c18b0
                                try clear c19
                                try clear c19b0
                                try clear c20
                                try clear c20b0
                                try clear c21
                                try clear c21b0
                                try clear c25
                                try clear c27
                                try clear c27b0
                                try clear c28
                                try clear c28b0
                                try clear c29
                                try clear p29
                                try clear q29
                                try clear hx29
                                try clear hf29
                                try clear c31
                                try clear hx31
                                try clear hf31
                                try clear hx124_0
                                try clear hx124_1
                                try clear hx124_2
                                try clear hx124_3
                                try clear hx124_4
                                try clear hx124_5
                                try clear hx124_6
                                try clear hx29_0
                                try clear hx29_1
                                try clear hx29_2
                                try clear hx29_3
                                try clear hx29_4
                                try clear hx29_5
                                try clear hx29_6
                                try clear hx31_0
                                try clear hx31_1
                                try clear hx31_2
                                try clear hx31_3
                                try clear hx31_4
                                try clear hx31_5
                                try clear hx31_6
                                try clear p1
                                try clear p12
                                try clear p124
                                try clear p2
                                try clear p29
                                try clear q1
                                try clear q12
                                try clear q124
                                try clear q29
                                obtain ⟨x8_4, rfl, HA, HK4, HO_5, HB⟩ := hrel
                                have hl5_4 := (Kd.S_reads' HO_5.out).1
                                rw [hl5_4] at HO_5
                                (try simp only [hl5_4])
                                cases gk with
                                | zero => exact absurd HA.out (by simp [capstanlaw23_SlotRound.l1])
                                | succ k4 =>
                                  have H := HA.out
                                  clear HA
                                  simp only [capstanlaw23_SlotRound.l1] at H
                                  by_cases c33 : x8_4 ≤ x6_2
                                  · rw [if_pos c33] at H
                                    have c33b0 : decide (x8_4 ≤ x6_2) = true := decide_eq_true c33
                                    clear c33
                                    replace H := Option.bind_eq_some_iff.mp H
                                    obtain ⟨⟨t138, t139⟩, A340, H⟩ := H
                                    replace H : (if t139 = true then (if x8_4 > (wrap64 (x6_2 - a0)) then (if t138 = 2 then (if x8_4 ≤ (wrap64 (x6_2 - a0)) then (if t138 = 3 then (capstanlaw23_SlotRound.l1 k4 a0 a1 y137 x6_2 (wrap64 (x8_4 + 1))) else (some false)) else (capstanlaw23_SlotRound.l1 k4 a0 a1 y137 x6_2 (wrap64 (x8_4 + 1)))) else (some false)) else (if x8_4 ≤ (wrap64 (x6_2 - a0)) then (if t138 = 3 then (capstanlaw23_SlotRound.l1 k4 a0 a1 y137 x6_2 (wrap64 (x8_4 + 1))) else (some false)) else (capstanlaw23_SlotRound.l1 k4 a0 a1 y137 x6_2 (wrap64 (x8_4 + 1))))) else (some false)) = some r := H
                                    have A34 := Aside0.mk A340
                                    clear A340
                                    by_cases c35 : t139 = true
                                    · subst c35
                                      have H1 : (if x8_4 > (wrap64 (x6_2 - a0)) then (if t138 = 2 then (if x8_4 ≤ (wrap64 (x6_2 - a0)) then (if t138 = 3 then (capstanlaw23_SlotRound.l1 k4 a0 a1 y137 x6_2 (wrap64 (x8_4 + 1))) else (some false)) else (capstanlaw23_SlotRound.l1 k4 a0 a1 y137 x6_2 (wrap64 (x8_4 + 1)))) else (some false)) else (if x8_4 ≤ (wrap64 (x6_2 - a0)) then (if t138 = 3 then (capstanlaw23_SlotRound.l1 k4 a0 a1 y137 x6_2 (wrap64 (x8_4 + 1))) else (some false)) else (capstanlaw23_SlotRound.l1 k4 a0 a1 y137 x6_2 (wrap64 (x8_4 + 1))))) = some r := by rw [if_pos rfl] at H; exact H
                                      clear H
                                      have H := H1
                                      clear H1
                                      by_cases c36 : x8_4 > (wrap64 (x6_2 - a0))
                                      · rw [if_pos c36] at H
                                        have c36b0 : decide ((wrap64 (x6_2 - a0)) < x8_4) = true := decide_eq_true c36
                                        clear c36
                                        by_cases c37 : t138 = 2
                                        · rw [if_pos c37] at H
                                          have c37b0 : (t138 == 2) = true := beq_iff_eq.mpr c37
                                          have c37b1 : (t138 != 2) = false := bne_eq_false_iff_eq.mpr c37
                                          clear c37
                                          by_cases c38 : x8_4 ≤ (wrap64 (x6_2 - a0))
                                          · rw [if_pos c38] at H
                                            have c38b0 : decide (x8_4 ≤ (wrap64 (x6_2 - a0))) = true := decide_eq_true c38
                                            clear c38
                                            by_cases c39 : t138 = 3
                                            · rw [if_pos c39] at H
                                              have c39b0 : (t138 == 3) = true := beq_iff_eq.mpr c39
                                              have c39b1 : (t138 != 3) = false := bne_eq_false_iff_eq.mpr c39
                                              clear c39
                                              have H' := Aside0.mk H
                                              clear H
                                              go_wp2_with (first | ((with_reducible refine gate_callee (f := 16) rfl ?_); refine goesL_ (some 72) rfl rfl Try.func16 (by kernel_rfl) rfl #[.slice (some ⟨go29, 0, none⟩) y137.length co29, .int .i64 x8_4] rfl (by (try simp only [List.map_toArray, List.map_cons, List.map_nil]); first | done | rfl | (simp only [List.length_drop, List.length_take]; rfl)) ?_; (with_reducible refine (capstanlaw23_told.calls _ _ y137 x8_4 t138 true _ ?side1 ?side2 A34.out).mono ?_); (case side1 => repeat (first | exact (Kd.S_reads' HO_5.out).2.2 | (with_reducible refine Kd.C_alloc ?_ _) | (with_reducible refine Kd.C_drewN ?_ _) | (with_reducible refine Kd.C_drew ?_))); (case side2 => exact (Kd.S_reads' HO_5.out).2.1); rintro e w40 ⟨rfl, hb⟩; refine ⟨_, rfl, ?_⟩; have n0_ := Aside0.mk (Kd.S_below (by (with_reducible repeat (first | apply Kd.S_alloc | apply Kd.S_drewN | apply Kd.S_drew)); exact HO_5.out) hb); have n1_ := Aside0.mk (below_step (by repeat (first | (with_reducible first | exact HB.out | apply below_alloc | apply pw_below_drewN | apply below_drew1) | exact HB.out)) hb); clear HO_5; clear HB; have HO_5 := n0_; have HB := n1_; clear n0_ n1_; (try clear hb); (try clear hb2); (try clear hk); (try clear hi)))
                                              (try simp only [← hl5_4])
                                              go_roundg k4
                                              case measure => have := HJ4.out; have := HK2.out; have := HJ16.out; have := HK4.out; omega
                                              case rel => exact ⟨(wrap64 (x8_4 + 1)), (by first | rfl | (simp; done) | (simp [*]; done)), H', ⟨by have := HJ4.out; have := HK2.out; have := HJ16.out; have := HK4.out; omega⟩, ⟨by (try simp only [hl5_4]); (with_reducible repeat (first | apply Kd.S_alloc | apply Kd.S_drewN | apply Kd.S_drew)); exact HO_5.out⟩, ⟨by repeat (first | (with_reducible first | exact HB.out | apply below_alloc | apply pw_below_drewN | apply below_drew1) | exact HB.out)⟩⟩
                                            · rw [if_neg c39] at H
                                              have c39b0 : (t138 == 3) = false := beq_eq_false_iff_ne.mpr c39
                                              have c39b1 : (t138 != 3) = true := bne_iff_ne.mpr c39
                                              obtain rfl := Option.some.inj H
                                              go_wp2_with (first | ((with_reducible refine gate_callee (f := 16) rfl ?_); refine goesL_ (some 72) rfl rfl Try.func16 (by kernel_rfl) rfl #[.slice (some ⟨go29, 0, none⟩) y137.length co29, .int .i64 x8_4] rfl (by (try simp only [List.map_toArray, List.map_cons, List.map_nil]); first | done | rfl | (simp only [List.length_drop, List.length_take]; rfl)) ?_; (with_reducible refine (capstanlaw23_told.calls _ _ y137 x8_4 t138 true _ ?side1 ?side2 A34.out).mono ?_); (case side1 => repeat (first | exact (Kd.S_reads' HO_5.out).2.2 | (with_reducible refine Kd.C_alloc ?_ _) | (with_reducible refine Kd.C_drewN ?_ _) | (with_reducible refine Kd.C_drew ?_))); (case side2 => exact (Kd.S_reads' HO_5.out).2.1); rintro e w41 ⟨rfl, hb⟩; refine ⟨_, rfl, ?_⟩; have n0_ := Aside0.mk (Kd.S_below (by (with_reducible repeat (first | apply Kd.S_alloc | apply Kd.S_drewN | apply Kd.S_drew)); exact HO_5.out) hb); have n1_ := Aside0.mk (below_step (by repeat (first | (with_reducible first | exact HB.out | apply below_alloc | apply pw_below_drewN | apply below_drew1) | exact HB.out)) hb); clear HO_5; clear HB; have HO_5 := n0_; have HB := n1_; clear n0_ n1_; (try clear hb); (try clear hb2); (try clear hk); (try clear hi)))
                                              go_ret
                                              exact ⟨by first | rfl | (simp [errW_none, errW_some] <;> rfl) | (simp [*, errW_none, errW_some] <;> rfl), by repeat (first | (with_reducible first | exact HB.out | apply below_alloc | apply pw_below_drewN | apply below_drew1) | exact HB.out)⟩
                                          · rw [if_neg c38] at H
                                            have c38b0 : decide (x8_4 ≤ (wrap64 (x6_2 - a0))) = false := decide_eq_false c38
                                            clear c38
                                            have H' := Aside0.mk H
                                            clear H
                                            go_wp2_with (first | ((with_reducible refine gate_callee (f := 16) rfl ?_); refine goesL_ (some 72) rfl rfl Try.func16 (by kernel_rfl) rfl #[.slice (some ⟨go29, 0, none⟩) y137.length co29, .int .i64 x8_4] rfl (by (try simp only [List.map_toArray, List.map_cons, List.map_nil]); first | done | rfl | (simp only [List.length_drop, List.length_take]; rfl)) ?_; (with_reducible refine (capstanlaw23_told.calls _ _ y137 x8_4 t138 true _ ?side1 ?side2 A34.out).mono ?_); (case side1 => repeat (first | exact (Kd.S_reads' HO_5.out).2.2 | (with_reducible refine Kd.C_alloc ?_ _) | (with_reducible refine Kd.C_drewN ?_ _) | (with_reducible refine Kd.C_drew ?_))); (case side2 => exact (Kd.S_reads' HO_5.out).2.1); rintro e w42 ⟨rfl, hb⟩; refine ⟨_, rfl, ?_⟩; have n0_ := Aside0.mk (Kd.S_below (by (with_reducible repeat (first | apply Kd.S_alloc | apply Kd.S_drewN | apply Kd.S_drew)); exact HO_5.out) hb); have n1_ := Aside0.mk (below_step (by repeat (first | (with_reducible first | exact HB.out | apply below_alloc | apply pw_below_drewN | apply below_drew1) | exact HB.out)) hb); clear HO_5; clear HB; have HO_5 := n0_; have HB := n1_; clear n0_ n1_; (try clear hb); (try clear hb2); (try clear hk); (try clear hi)))
                                            (try simp only [← hl5_4])
                                            go_roundg k4
                                            case measure => have := HJ4.out; have := HK2.out; have := HJ16.out; have := HK4.out; omega
                                            case rel => exact ⟨(wrap64 (x8_4 + 1)), (by first | rfl | (simp; done) | (simp [*]; done)), H', ⟨by have := HJ4.out; have := HK2.out; have := HJ16.out; have := HK4.out; omega⟩, ⟨by (try simp only [hl5_4]); (with_reducible repeat (first | apply Kd.S_alloc | apply Kd.S_drewN | apply Kd.S_drew)); exact HO_5.out⟩, ⟨by repeat (first | (with_reducible first | exact HB.out | apply below_alloc | apply pw_below_drewN | apply below_drew1) | exact HB.out)⟩⟩
                                        · rw [if_neg c37] at H
                                          have c37b0 : (t138 == 2) = false := beq_eq_false_iff_ne.mpr c37
                                          have c37b1 : (t138 != 2) = true := bne_iff_ne.mpr c37
                                          obtain rfl := Option.some.inj H
                                          go_wp2_with (first | ((with_reducible refine gate_callee (f := 16) rfl ?_); refine goesL_ (some 72) rfl rfl Try.func16 (by kernel_rfl) rfl #[.slice (some ⟨go29, 0, none⟩) y137.length co29, .int .i64 x8_4] rfl (by (try simp only [List.map_toArray, List.map_cons, List.map_nil]); first | done | rfl | (simp only [List.length_drop, List.length_take]; rfl)) ?_; (with_reducible refine (capstanlaw23_told.calls _ _ y137 x8_4 t138 true _ ?side1 ?side2 A34.out).mono ?_); (case side1 => repeat (first | exact (Kd.S_reads' HO_5.out).2.2 | (with_reducible refine Kd.C_alloc ?_ _) | (with_reducible refine Kd.C_drewN ?_ _) | (with_reducible refine Kd.C_drew ?_))); (case side2 => exact (Kd.S_reads' HO_5.out).2.1); rintro e w43 ⟨rfl, hb⟩; refine ⟨_, rfl, ?_⟩; have n0_ := Aside0.mk (Kd.S_below (by (with_reducible repeat (first | apply Kd.S_alloc | apply Kd.S_drewN | apply Kd.S_drew)); exact HO_5.out) hb); have n1_ := Aside0.mk (below_step (by repeat (first | (with_reducible first | exact HB.out | apply below_alloc | apply pw_below_drewN | apply below_drew1) | exact HB.out)) hb); clear HO_5; clear HB; have HO_5 := n0_; have HB := n1_; clear n0_ n1_; (try clear hb); (try clear hb2); (try clear hk); (try clear hi)))
                                          go_ret
                                          exact ⟨by first | rfl | (simp [errW_none, errW_some] <;> rfl) | (simp [*, errW_none, errW_some] <;> rfl), by repeat (first | (with_reducible first | exact HB.out | apply below_alloc | apply pw_below_drewN | apply below_drew1) | exact HB.out)⟩
                                      · rw [if_neg c36] at H
                                        have c36b0 : decide ((wrap64 (x6_2 - a0)) < x8_4) = false := decide_eq_false c36
                                        clear c36
                                        by_cases c44 : x8_4 ≤ (wrap64 (x6_2 - a0))
                                        · rw [if_pos c44] at H
                                          have c44b0 : decide (x8_4 ≤ (wrap64 (x6_2 - a0))) = true := decide_eq_true c44
                                          clear c44
                                          by_cases c45 : t138 = 3
                                          · rw [if_pos c45] at H
                                            have c45b0 : (t138 == 3) = true := beq_iff_eq.mpr c45
                                            have c45b1 : (t138 != 3) = false := bne_eq_false_iff_eq.mpr c45
                                            clear c45
                                            have H' := Aside0.mk H
                                            clear H
                                            go_wp2_with (first | ((with_reducible refine gate_callee (f := 16) rfl ?_); refine goesL_ (some 72) rfl rfl Try.func16 (by kernel_rfl) rfl #[.slice (some ⟨go29, 0, none⟩) y137.length co29, .int .i64 x8_4] rfl (by (try simp only [List.map_toArray, List.map_cons, List.map_nil]); first | done | rfl | (simp only [List.length_drop, List.length_take]; rfl)) ?_; (with_reducible refine (capstanlaw23_told.calls _ _ y137 x8_4 t138 true _ ?side1 ?side2 A34.out).mono ?_); (case side1 => repeat (first | exact (Kd.S_reads' HO_5.out).2.2 | (with_reducible refine Kd.C_alloc ?_ _) | (with_reducible refine Kd.C_drewN ?_ _) | (with_reducible refine Kd.C_drew ?_))); (case side2 => exact (Kd.S_reads' HO_5.out).2.1); rintro e w46 ⟨rfl, hb⟩; refine ⟨_, rfl, ?_⟩; have n0_ := Aside0.mk (Kd.S_below (by (with_reducible repeat (first | apply Kd.S_alloc | apply Kd.S_drewN | apply Kd.S_drew)); exact HO_5.out) hb); have n1_ := Aside0.mk (below_step (by repeat (first | (with_reducible first | exact HB.out | apply below_alloc | apply pw_below_drewN | apply below_drew1) | exact HB.out)) hb); clear HO_5; clear HB; have HO_5 := n0_; have HB := n1_; clear n0_ n1_; (try clear hb); (try clear hb2); (try clear hk); (try clear hi)))
                                            (try simp only [← hl5_4])
                                            go_roundg k4
                                            case measure => have := HJ4.out; have := HK2.out; have := HJ16.out; have := HK4.out; omega
                                            case rel => exact ⟨(wrap64 (x8_4 + 1)), (by first | rfl | (simp; done) | (simp [*]; done)), H', ⟨by have := HJ4.out; have := HK2.out; have := HJ16.out; have := HK4.out; omega⟩, ⟨by (try simp only [hl5_4]); (with_reducible repeat (first | apply Kd.S_alloc | apply Kd.S_drewN | apply Kd.S_drew)); exact HO_5.out⟩, ⟨by repeat (first | (with_reducible first | exact HB.out | apply below_alloc | apply pw_below_drewN | apply below_drew1) | exact HB.out)⟩⟩
                                          · rw [if_neg c45] at H
                                            have c45b0 : (t138 == 3) = false := beq_eq_false_iff_ne.mpr c45
                                            have c45b1 : (t138 != 3) = true := bne_iff_ne.mpr c45
                                            obtain rfl := Option.some.inj H
                                            go_wp2_with (first | ((with_reducible refine gate_callee (f := 16) rfl ?_); refine goesL_ (some 72) rfl rfl Try.func16 (by kernel_rfl) rfl #[.slice (some ⟨go29, 0, none⟩) y137.length co29, .int .i64 x8_4] rfl (by (try simp only [List.map_toArray, List.map_cons, List.map_nil]); first | done | rfl | (simp only [List.length_drop, List.length_take]; rfl)) ?_; (with_reducible refine (capstanlaw23_told.calls _ _ y137 x8_4 t138 true _ ?side1 ?side2 A34.out).mono ?_); (case side1 => repeat (first | exact (Kd.S_reads' HO_5.out).2.2 | (with_reducible refine Kd.C_alloc ?_ _) | (with_reducible refine Kd.C_drewN ?_ _) | (with_reducible refine Kd.C_drew ?_))); (case side2 => exact (Kd.S_reads' HO_5.out).2.1); rintro e w47 ⟨rfl, hb⟩; refine ⟨_, rfl, ?_⟩; have n0_ := Aside0.mk (Kd.S_below (by (with_reducible repeat (first | apply Kd.S_alloc | apply Kd.S_drewN | apply Kd.S_drew)); exact HO_5.out) hb); have n1_ := Aside0.mk (below_step (by repeat (first | (with_reducible first | exact HB.out | apply below_alloc | apply pw_below_drewN | apply below_drew1) | exact HB.out)) hb); clear HO_5; clear HB; have HO_5 := n0_; have HB := n1_; clear n0_ n1_; (try clear hb); (try clear hb2); (try clear hk); (try clear hi)))
                                            go_ret
                                            exact ⟨by first | rfl | (simp [errW_none, errW_some] <;> rfl) | (simp [*, errW_none, errW_some] <;> rfl), by repeat (first | (with_reducible first | exact HB.out | apply below_alloc | apply pw_below_drewN | apply below_drew1) | exact HB.out)⟩
                                        · rw [if_neg c44] at H
                                          have c44b0 : decide (x8_4 ≤ (wrap64 (x6_2 - a0))) = false := decide_eq_false c44
                                          clear c44
                                          have H' := Aside0.mk H
                                          clear H
                                          go_wp2_with (first | ((with_reducible refine gate_callee (f := 16) rfl ?_); refine goesL_ (some 72) rfl rfl Try.func16 (by kernel_rfl) rfl #[.slice (some ⟨go29, 0, none⟩) y137.length co29, .int .i64 x8_4] rfl (by (try simp only [List.map_toArray, List.map_cons, List.map_nil]); first | done | rfl | (simp only [List.length_drop, List.length_take]; rfl)) ?_; (with_reducible refine (capstanlaw23_told.calls _ _ y137 x8_4 t138 true _ ?side1 ?side2 A34.out).mono ?_); (case side1 => repeat (first | exact (Kd.S_reads' HO_5.out).2.2 | (with_reducible refine Kd.C_alloc ?_ _) | (with_reducible refine Kd.C_drewN ?_ _) | (with_reducible refine Kd.C_drew ?_))); (case side2 => exact (Kd.S_reads' HO_5.out).2.1); rintro e w48 ⟨rfl, hb⟩; refine ⟨_, rfl, ?_⟩; have n0_ := Aside0.mk (Kd.S_below (by (with_reducible repeat (first | apply Kd.S_alloc | apply Kd.S_drewN | apply Kd.S_drew)); exact HO_5.out) hb); have n1_ := Aside0.mk (below_step (by repeat (first | (with_reducible first | exact HB.out | apply below_alloc | apply pw_below_drewN | apply below_drew1) | exact HB.out)) hb); clear HO_5; clear HB; have HO_5 := n0_; have HB := n1_; clear n0_ n1_; (try clear hb); (try clear hb2); (try clear hk); (try clear hi)))
                                          (try simp only [← hl5_4])
                                          go_roundg k4
                                          case measure => have := HJ4.out; have := HK2.out; have := HJ16.out; have := HK4.out; omega
                                          case rel => exact ⟨(wrap64 (x8_4 + 1)), (by first | rfl | (simp; done) | (simp [*]; done)), H', ⟨by have := HJ4.out; have := HK2.out; have := HJ16.out; have := HK4.out; omega⟩, ⟨by (try simp only [hl5_4]); (with_reducible repeat (first | apply Kd.S_alloc | apply Kd.S_drewN | apply Kd.S_drew)); exact HO_5.out⟩, ⟨by repeat (first | (with_reducible first | exact HB.out | apply below_alloc | apply pw_below_drewN | apply below_drew1) | exact HB.out)⟩⟩
                                    · replace c35 := Bool.eq_false_iff.mpr c35
                                      subst c35
                                      have H1 : (some false) = some r := by rw [if_neg (show ¬ (false = true) by decide)] at H; exact H
                                      clear H
                                      have H := H1
                                      clear H1
                                      obtain rfl := Option.some.inj H
                                      go_wp2_with (first | ((with_reducible refine gate_callee (f := 16) rfl ?_); refine goesL_ (some 72) rfl rfl Try.func16 (by kernel_rfl) rfl #[.slice (some ⟨go29, 0, none⟩) y137.length co29, .int .i64 x8_4] rfl (by (try simp only [List.map_toArray, List.map_cons, List.map_nil]); first | done | rfl | (simp only [List.length_drop, List.length_take]; rfl)) ?_; (with_reducible refine (capstanlaw23_told.calls _ _ y137 x8_4 t138 false _ ?side1 ?side2 A34.out).mono ?_); (case side1 => repeat (first | exact (Kd.S_reads' HO_5.out).2.2 | (with_reducible refine Kd.C_alloc ?_ _) | (with_reducible refine Kd.C_drewN ?_ _) | (with_reducible refine Kd.C_drew ?_))); (case side2 => exact (Kd.S_reads' HO_5.out).2.1); rintro e w49 ⟨rfl, hb⟩; refine ⟨_, rfl, ?_⟩; have n0_ := Aside0.mk (Kd.S_below (by (with_reducible repeat (first | apply Kd.S_alloc | apply Kd.S_drewN | apply Kd.S_drew)); exact HO_5.out) hb); have n1_ := Aside0.mk (below_step (by repeat (first | (with_reducible first | exact HB.out | apply below_alloc | apply pw_below_drewN | apply below_drew1) | exact HB.out)) hb); clear HO_5; clear HB; have HO_5 := n0_; have HB := n1_; clear n0_ n1_; (try clear hb); (try clear hb2); (try clear hk); (try clear hi)))
                                      go_ret
                                      exact ⟨by first | rfl | (simp [errW_none, errW_some] <;> rfl) | (simp [*, errW_none, errW_some] <;> rfl), by repeat (first | (with_reducible first | exact HB.out | apply below_alloc | apply pw_below_drewN | apply below_drew1) | exact HB.out)⟩
                                  · rw [if_neg c33] at H
                                    have c33b0 : decide (x8_4 ≤ x6_2) = false := decide_eq_false c33
                                    clear c33
                                    have H' := Aside0.mk H
                                    clear H
                                    go_wp2
                                    go_loopg [11] k4 (fun kq v11 w' => ∃ (x11_5 : Int), v11 = .int .i64 x11_5 ∧ Aside0 (capstanlaw23_SlotRound.l2 kq a0 a1 y137 x6_2 x11_5 = some r) ∧ Aside0 (kq ≤ k4) ∧ Aside0 (Kd.S k33 33 w' w.heap.size (fun _ => True) (.slice (some ⟨go29, 0, none⟩) y137.length co29) y137) ∧ Aside0 (Below w.heap.size w w'))
                                    case atStart => exact ⟨(wrap64 (x6_2 + 1)), (by first | rfl | (simp; done) | (simp [*]; done)), H', ⟨Nat.le_refl _⟩, ⟨by (try simp only [hl5_4]); (with_reducible repeat (first | apply Kd.S_alloc | apply Kd.S_drewN | apply Kd.S_drew)); exact HO_5.out⟩, ⟨by repeat (first | (with_reducible first | exact HB.out | apply below_alloc | apply pw_below_drewN | apply below_drew1) | exact HB.out)⟩⟩
                                    case round =>
                                      clear H'
                                      try clear c1
                                      try clear p1
                                      try clear q1
                                      try clear hx1
                                      try clear c2
                                      try clear p2
                                      try clear q2
                                      try clear hx2
                                      try clear hf2
                                      try clear c3
                                      try clear hx3
                                      try clear hf3
                                      try clear c4
                                      try clear c5
                                      try clear p6
                                      try clear c7
                                      try clear c7b0
                                      try clear c8
                                      try clear c8b0
                                      try clear c9
                                      try clear c9b0
                                      try clear c10
                                      try clear c11
                                      try clear c11b0
                                      try clear c11b1
                                      try clear c12
                                      try clear c12b0
                                      try clear c12b1
                                      try clear p12
                                      try clear q12
                                      try clear hx12
                                      try clear c15
                                      try clear c15b0
                                      try clear c16
                                      try clear c18
                                      try clear c18b0
                                      try clear c19
                                      try clear c19b0
                                      try clear c20
                                      try clear c20b0
                                      try clear c21
                                      try clear c21b0
                                      try clear c25
                                      try clear c27
                                      try clear c27b0
                                      try clear c28
                                      try clear c28b0
                                      try clear c29
                                      try clear p29
                                      try clear q29
                                      try clear hx29
                                      try clear hf29
                                      try clear c31
                                      try clear hx31
                                      try clear hf31
                                      try clear c33
                                      try clear c33b0
                                      try clear c35
                                      try clear c36
                                      try clear c36b0
                                      try clear c37
                                      try clear c37b0
                                      try clear c37b1
                                      try clear c38
                                      try clear c38b0
                                      try clear c39
                                      try clear c39b0
                                      try clear c39b1
                                      try clear c44
                                      try clear c44b0
                                      try clear c45
                                      try clear c45b0
                                      try clear c45b1
                                      try clear hx124_0
                                      try clear hx124_1
                                      try clear hx124_2
                                      try clear hx124_3
                                      try clear hx124_4
                                      try clear hx124_5
                                      try clear hx124_6
                                      try clear hx29_0
                                      try clear hx29_1
                                      try clear hx29_2
                                      try clear hx29_3
                                      try clear hx29_4
                                      try clear hx29_5
                                      try clear hx29_6
                                      try clear hx31_0
                                      try clear hx31_1
                                      try clear hx31_2
                                      try clear hx31_3
                                      try clear hx31_4
                                      try clear hx31_5
                                      try clear hx31_6
                                      try clear p1
                                      try clear p12
                                      try clear p124
                                      try clear p2
                                      try clear p29
                                      try clear q1
                                      try clear q12
                                      try clear q124
                                      try clear q2
                                      try clear q29
                                      obtain ⟨x11_5, rfl, HA, HK5, HO_5, HB⟩ := hrel
                                      cases gk with
                                      | zero => exact absurd HA.out (by simp [capstanlaw23_SlotRound.l2])
                                      | succ k5 =>
                                        have H := HA.out
                                        clear HA
                                        simp only [capstanlaw23_SlotRound.l2] at H
                                        by_cases c50 : x11_5 ≤ (wrap64 ((wrap64 (x6_2 + a0)) + 1))
                                        · rw [if_pos c50] at H
                                          have c50b0 : decide (x11_5 ≤ (wrap64 ((wrap64 (x6_2 + a0)) + 1))) = true := decide_eq_true c50
                                          clear c50
                                          replace H := Option.bind_eq_some_iff.mp H
                                          obtain ⟨⟨t140, t141⟩, A510, H⟩ := H
                                          replace H : (if t141 = true then (if x11_5 ≤ (wrap64 (x6_2 + a0)) then (if t140 = 1 then (if x11_5 > (wrap64 (x6_2 + a0)) then (if t140 = 0 then (capstanlaw23_SlotRound.l2 k5 a0 a1 y137 x6_2 (wrap64 (x11_5 + 1))) else (some false)) else (capstanlaw23_SlotRound.l2 k5 a0 a1 y137 x6_2 (wrap64 (x11_5 + 1)))) else (some false)) else (if x11_5 > (wrap64 (x6_2 + a0)) then (if t140 = 0 then (capstanlaw23_SlotRound.l2 k5 a0 a1 y137 x6_2 (wrap64 (x11_5 + 1))) else (some false)) else (capstanlaw23_SlotRound.l2 k5 a0 a1 y137 x6_2 (wrap64 (x11_5 + 1))))) else (some false)) = some r := H
                                          have A51 := Aside0.mk A510
                                          clear A510
                                          by_cases c52 : t141 = true
                                          · subst c52
                                            have H1 : (if x11_5 ≤ (wrap64 (x6_2 + a0)) then (if t140 = 1 then (if x11_5 > (wrap64 (x6_2 + a0)) then (if t140 = 0 then (capstanlaw23_SlotRound.l2 k5 a0 a1 y137 x6_2 (wrap64 (x11_5 + 1))) else (some false)) else (capstanlaw23_SlotRound.l2 k5 a0 a1 y137 x6_2 (wrap64 (x11_5 + 1)))) else (some false)) else (if x11_5 > (wrap64 (x6_2 + a0)) then (if t140 = 0 then (capstanlaw23_SlotRound.l2 k5 a0 a1 y137 x6_2 (wrap64 (x11_5 + 1))) else (some false)) else (capstanlaw23_SlotRound.l2 k5 a0 a1 y137 x6_2 (wrap64 (x11_5 + 1))))) = some r := by rw [if_pos rfl] at H; exact H
                                            clear H
                                            have H := H1
                                            clear H1
                                            by_cases c53 : x11_5 ≤ (wrap64 (x6_2 + a0))
                                            · rw [if_pos c53] at H
                                              have c53b0 : decide (x11_5 ≤ (wrap64 (x6_2 + a0))) = true := decide_eq_true c53
                                              clear c53
                                              by_cases c54 : t140 = 1
                                              · rw [if_pos c54] at H
                                                have c54b0 : (t140 == 1) = true := beq_iff_eq.mpr c54
                                                have c54b1 : (t140 != 1) = false := bne_eq_false_iff_eq.mpr c54
                                                clear c54
                                                by_cases c55 : x11_5 > (wrap64 (x6_2 + a0))
                                                · rw [if_pos c55] at H
                                                  have c55b0 : decide ((wrap64 (x6_2 + a0)) < x11_5) = true := decide_eq_true c55
                                                  clear c55
                                                  by_cases c56 : t140 = 0
                                                  · rw [if_pos c56] at H
                                                    have c56b0 : (t140 == 0) = true := beq_iff_eq.mpr c56
                                                    have c56b1 : (t140 != 0) = false := bne_eq_false_iff_eq.mpr c56
                                                    clear c56
                                                    have H' := Aside0.mk H
                                                    clear H
                                                    go_wp2_with (first | ((with_reducible refine gate_callee (f := 16) rfl ?_); refine goesL_ (some 112) rfl rfl Try.func16 (by kernel_rfl) rfl #[.slice (some ⟨go29, 0, none⟩) y137.length co29, .int .i64 x11_5] rfl (by (try simp only [List.map_toArray, List.map_cons, List.map_nil]); first | done | rfl | (simp only [List.length_drop, List.length_take]; rfl)) ?_; (with_reducible refine (capstanlaw23_told.calls _ _ y137 x11_5 t140 true _ ?side1 ?side2 A51.out).mono ?_); (case side1 => repeat (first | exact (Kd.S_reads' HO_5.out).2.2 | (with_reducible refine Kd.C_alloc ?_ _) | (with_reducible refine Kd.C_drewN ?_ _) | (with_reducible refine Kd.C_drew ?_))); (case side2 => exact (Kd.S_reads' HO_5.out).2.1); rintro e w57 ⟨rfl, hb⟩; refine ⟨_, rfl, ?_⟩; have n0_ := Aside0.mk (Kd.S_below (by (with_reducible repeat (first | apply Kd.S_alloc | apply Kd.S_drewN | apply Kd.S_drew)); exact HO_5.out) hb); have n1_ := Aside0.mk (below_step (by repeat (first | (with_reducible first | exact HB.out | apply below_alloc | apply pw_below_drewN | apply below_drew1) | exact HB.out)) hb); clear HO_5; clear HB; have HO_5 := n0_; have HB := n1_; clear n0_ n1_; (try clear hb); (try clear hb2); (try clear hk); (try clear hi)))
                                                    go_roundg k5
                                                    case measure => have := HJ4.out; have := HK2.out; have := HJ16.out; have := HK4.out; have := HK5.out; omega
                                                    case rel => exact ⟨(wrap64 (x11_5 + 1)), (by first | rfl | (simp; done) | (simp [*]; done)), H', ⟨by have := HJ4.out; have := HK2.out; have := HJ16.out; have := HK4.out; have := HK5.out; omega⟩, ⟨by (try simp only [hl5_4]); (with_reducible repeat (first | apply Kd.S_alloc | apply Kd.S_drewN | apply Kd.S_drew)); exact HO_5.out⟩, ⟨by repeat (first | (with_reducible first | exact HB.out | apply below_alloc | apply pw_below_drewN | apply below_drew1) | exact HB.out)⟩⟩
                                                  · rw [if_neg c56] at H
                                                    have c56b0 : (t140 == 0) = false := beq_eq_false_iff_ne.mpr c56
                                                    have c56b1 : (t140 != 0) = true := bne_iff_ne.mpr c56
                                                    obtain rfl := Option.some.inj H
                                                    go_wp2_with (first | ((with_reducible refine gate_callee (f := 16) rfl ?_); refine goesL_ (some 112) rfl rfl Try.func16 (by kernel_rfl) rfl #[.slice (some ⟨go29, 0, none⟩) y137.length co29, .int .i64 x11_5] rfl (by (try simp only [List.map_toArray, List.map_cons, List.map_nil]); first | done | rfl | (simp only [List.length_drop, List.length_take]; rfl)) ?_; (with_reducible refine (capstanlaw23_told.calls _ _ y137 x11_5 t140 true _ ?side1 ?side2 A51.out).mono ?_); (case side1 => repeat (first | exact (Kd.S_reads' HO_5.out).2.2 | (with_reducible refine Kd.C_alloc ?_ _) | (with_reducible refine Kd.C_drewN ?_ _) | (with_reducible refine Kd.C_drew ?_))); (case side2 => exact (Kd.S_reads' HO_5.out).2.1); rintro e w58 ⟨rfl, hb⟩; refine ⟨_, rfl, ?_⟩; have n0_ := Aside0.mk (Kd.S_below (by (with_reducible repeat (first | apply Kd.S_alloc | apply Kd.S_drewN | apply Kd.S_drew)); exact HO_5.out) hb); have n1_ := Aside0.mk (below_step (by repeat (first | (with_reducible first | exact HB.out | apply below_alloc | apply pw_below_drewN | apply below_drew1) | exact HB.out)) hb); clear HO_5; clear HB; have HO_5 := n0_; have HB := n1_; clear n0_ n1_; (try clear hb); (try clear hb2); (try clear hk); (try clear hi)))
                                                    go_ret
                                                    exact ⟨by first | rfl | (simp [errW_none, errW_some] <;> rfl) | (simp [*, errW_none, errW_some] <;> rfl), by repeat (first | (with_reducible first | exact HB.out | apply below_alloc | apply pw_below_drewN | apply below_drew1) | exact HB.out)⟩
                                                · rw [if_neg c55] at H
                                                  have c55b0 : decide ((wrap64 (x6_2 + a0)) < x11_5) = false := decide_eq_false c55
                                                  clear c55
                                                  have H' := Aside0.mk H
                                                  clear H
                                                  go_wp2_with (first | ((with_reducible refine gate_callee (f := 16) rfl ?_); refine goesL_ (some 112) rfl rfl Try.func16 (by kernel_rfl) rfl #[.slice (some ⟨go29, 0, none⟩) y137.length co29, .int .i64 x11_5] rfl (by (try simp only [List.map_toArray, List.map_cons, List.map_nil]); first | done | rfl | (simp only [List.length_drop, List.length_take]; rfl)) ?_; (with_reducible refine (capstanlaw23_told.calls _ _ y137 x11_5 t140 true _ ?side1 ?side2 A51.out).mono ?_); (case side1 => repeat (first | exact (Kd.S_reads' HO_5.out).2.2 | (with_reducible refine Kd.C_alloc ?_ _) | (with_reducible refine Kd.C_drewN ?_ _) | (with_reducible refine Kd.C_drew ?_))); (case side2 => exact (Kd.S_reads' HO_5.out).2.1); rintro e w59 ⟨rfl, hb⟩; refine ⟨_, rfl, ?_⟩; have n0_ := Aside0.mk (Kd.S_below (by (with_reducible repeat (first | apply Kd.S_alloc | apply Kd.S_drewN | apply Kd.S_drew)); exact HO_5.out) hb); have n1_ := Aside0.mk (below_step (by repeat (first | (with_reducible first | exact HB.out | apply below_alloc | apply pw_below_drewN | apply below_drew1) | exact HB.out)) hb); clear HO_5; clear HB; have HO_5 := n0_; have HB := n1_; clear n0_ n1_; (try clear hb); (try clear hb2); (try clear hk); (try clear hi)))
                                                  go_roundg k5
                                                  case measure => have := HJ4.out; have := HK2.out; have := HJ16.out; have := HK4.out; have := HK5.out; omega
                                                  case rel => exact ⟨(wrap64 (x11_5 + 1)), (by first | rfl | (simp; done) | (simp [*]; done)), H', ⟨by have := HJ4.out; have := HK2.out; have := HJ16.out; have := HK4.out; have := HK5.out; omega⟩, ⟨by (try simp only [hl5_4]); (with_reducible repeat (first | apply Kd.S_alloc | apply Kd.S_drewN | apply Kd.S_drew)); exact HO_5.out⟩, ⟨by repeat (first | (with_reducible first | exact HB.out | apply below_alloc | apply pw_below_drewN | apply below_drew1) | exact HB.out)⟩⟩
                                              · rw [if_neg c54] at H
                                                have c54b0 : (t140 == 1) = false := beq_eq_false_iff_ne.mpr c54
                                                have c54b1 : (t140 != 1) = true := bne_iff_ne.mpr c54
                                                obtain rfl := Option.some.inj H
                                                go_wp2_with (first | ((with_reducible refine gate_callee (f := 16) rfl ?_); refine goesL_ (some 112) rfl rfl Try.func16 (by kernel_rfl) rfl #[.slice (some ⟨go29, 0, none⟩) y137.length co29, .int .i64 x11_5] rfl (by (try simp only [List.map_toArray, List.map_cons, List.map_nil]); first | done | rfl | (simp only [List.length_drop, List.length_take]; rfl)) ?_; (with_reducible refine (capstanlaw23_told.calls _ _ y137 x11_5 t140 true _ ?side1 ?side2 A51.out).mono ?_); (case side1 => repeat (first | exact (Kd.S_reads' HO_5.out).2.2 | (with_reducible refine Kd.C_alloc ?_ _) | (with_reducible refine Kd.C_drewN ?_ _) | (with_reducible refine Kd.C_drew ?_))); (case side2 => exact (Kd.S_reads' HO_5.out).2.1); rintro e w60 ⟨rfl, hb⟩; refine ⟨_, rfl, ?_⟩; have n0_ := Aside0.mk (Kd.S_below (by (with_reducible repeat (first | apply Kd.S_alloc | apply Kd.S_drewN | apply Kd.S_drew)); exact HO_5.out) hb); have n1_ := Aside0.mk (below_step (by repeat (first | (with_reducible first | exact HB.out | apply below_alloc | apply pw_below_drewN | apply below_drew1) | exact HB.out)) hb); clear HO_5; clear HB; have HO_5 := n0_; have HB := n1_; clear n0_ n1_; (try clear hb); (try clear hb2); (try clear hk); (try clear hi)))
                                                go_ret
                                                exact ⟨by first | rfl | (simp [errW_none, errW_some] <;> rfl) | (simp [*, errW_none, errW_some] <;> rfl), by repeat (first | (with_reducible first | exact HB.out | apply below_alloc | apply pw_below_drewN | apply below_drew1) | exact HB.out)⟩
                                            · rw [if_neg c53] at H
                                              have c53b0 : decide (x11_5 ≤ (wrap64 (x6_2 + a0))) = false := decide_eq_false c53
                                              clear c53
                                              by_cases c61 : x11_5 > (wrap64 (x6_2 + a0))
                                              · rw [if_pos c61] at H
                                                have c61b0 : decide ((wrap64 (x6_2 + a0)) < x11_5) = true := decide_eq_true c61
                                                clear c61
                                                by_cases c62 : t140 = 0
                                                · rw [if_pos c62] at H
                                                  have c62b0 : (t140 == 0) = true := beq_iff_eq.mpr c62
                                                  have c62b1 : (t140 != 0) = false := bne_eq_false_iff_eq.mpr c62
                                                  clear c62
                                                  have H' := Aside0.mk H
                                                  clear H
                                                  go_wp2_with (first | ((with_reducible refine gate_callee (f := 16) rfl ?_); refine goesL_ (some 112) rfl rfl Try.func16 (by kernel_rfl) rfl #[.slice (some ⟨go29, 0, none⟩) y137.length co29, .int .i64 x11_5] rfl (by (try simp only [List.map_toArray, List.map_cons, List.map_nil]); first | done | rfl | (simp only [List.length_drop, List.length_take]; rfl)) ?_; (with_reducible refine (capstanlaw23_told.calls _ _ y137 x11_5 t140 true _ ?side1 ?side2 A51.out).mono ?_); (case side1 => repeat (first | exact (Kd.S_reads' HO_5.out).2.2 | (with_reducible refine Kd.C_alloc ?_ _) | (with_reducible refine Kd.C_drewN ?_ _) | (with_reducible refine Kd.C_drew ?_))); (case side2 => exact (Kd.S_reads' HO_5.out).2.1); rintro e w63 ⟨rfl, hb⟩; refine ⟨_, rfl, ?_⟩; have n0_ := Aside0.mk (Kd.S_below (by (with_reducible repeat (first | apply Kd.S_alloc | apply Kd.S_drewN | apply Kd.S_drew)); exact HO_5.out) hb); have n1_ := Aside0.mk (below_step (by repeat (first | (with_reducible first | exact HB.out | apply below_alloc | apply pw_below_drewN | apply below_drew1) | exact HB.out)) hb); clear HO_5; clear HB; have HO_5 := n0_; have HB := n1_; clear n0_ n1_; (try clear hb); (try clear hb2); (try clear hk); (try clear hi)))
                                                  go_roundg k5
                                                  case measure => have := HJ4.out; have := HK2.out; have := HJ16.out; have := HK4.out; have := HK5.out; omega
                                                  case rel => exact ⟨(wrap64 (x11_5 + 1)), (by first | rfl | (simp; done) | (simp [*]; done)), H', ⟨by have := HJ4.out; have := HK2.out; have := HJ16.out; have := HK4.out; have := HK5.out; omega⟩, ⟨by (try simp only [hl5_4]); (with_reducible repeat (first | apply Kd.S_alloc | apply Kd.S_drewN | apply Kd.S_drew)); exact HO_5.out⟩, ⟨by repeat (first | (with_reducible first | exact HB.out | apply below_alloc | apply pw_below_drewN | apply below_drew1) | exact HB.out)⟩⟩
                                                · rw [if_neg c62] at H
                                                  have c62b0 : (t140 == 0) = false := beq_eq_false_iff_ne.mpr c62
                                                  have c62b1 : (t140 != 0) = true := bne_iff_ne.mpr c62
                                                  obtain rfl := Option.some.inj H
                                                  go_wp2_with (first | ((with_reducible refine gate_callee (f := 16) rfl ?_); refine goesL_ (some 112) rfl rfl Try.func16 (by kernel_rfl) rfl #[.slice (some ⟨go29, 0, none⟩) y137.length co29, .int .i64 x11_5] rfl (by (try simp only [List.map_toArray, List.map_cons, List.map_nil]); first | done | rfl | (simp only [List.length_drop, List.length_take]; rfl)) ?_; (with_reducible refine (capstanlaw23_told.calls _ _ y137 x11_5 t140 true _ ?side1 ?side2 A51.out).mono ?_); (case side1 => repeat (first | exact (Kd.S_reads' HO_5.out).2.2 | (with_reducible refine Kd.C_alloc ?_ _) | (with_reducible refine Kd.C_drewN ?_ _) | (with_reducible refine Kd.C_drew ?_))); (case side2 => exact (Kd.S_reads' HO_5.out).2.1); rintro e w64 ⟨rfl, hb⟩; refine ⟨_, rfl, ?_⟩; have n0_ := Aside0.mk (Kd.S_below (by (with_reducible repeat (first | apply Kd.S_alloc | apply Kd.S_drewN | apply Kd.S_drew)); exact HO_5.out) hb); have n1_ := Aside0.mk (below_step (by repeat (first | (with_reducible first | exact HB.out | apply below_alloc | apply pw_below_drewN | apply below_drew1) | exact HB.out)) hb); clear HO_5; clear HB; have HO_5 := n0_; have HB := n1_; clear n0_ n1_; (try clear hb); (try clear hb2); (try clear hk); (try clear hi)))
                                                  go_ret
                                                  exact ⟨by first | rfl | (simp [errW_none, errW_some] <;> rfl) | (simp [*, errW_none, errW_some] <;> rfl), by repeat (first | (with_reducible first | exact HB.out | apply below_alloc | apply pw_below_drewN | apply below_drew1) | exact HB.out)⟩
                                              · rw [if_neg c61] at H
                                                have c61b0 : decide ((wrap64 (x6_2 + a0)) < x11_5) = false := decide_eq_false c61
                                                clear c61
                                                have H' := Aside0.mk H
                                                clear H
                                                go_wp2_with (first | ((with_reducible refine gate_callee (f := 16) rfl ?_); refine goesL_ (some 112) rfl rfl Try.func16 (by kernel_rfl) rfl #[.slice (some ⟨go29, 0, none⟩) y137.length co29, .int .i64 x11_5] rfl (by (try simp only [List.map_toArray, List.map_cons, List.map_nil]); first | done | rfl | (simp only [List.length_drop, List.length_take]; rfl)) ?_; (with_reducible refine (capstanlaw23_told.calls _ _ y137 x11_5 t140 true _ ?side1 ?side2 A51.out).mono ?_); (case side1 => repeat (first | exact (Kd.S_reads' HO_5.out).2.2 | (with_reducible refine Kd.C_alloc ?_ _) | (with_reducible refine Kd.C_drewN ?_ _) | (with_reducible refine Kd.C_drew ?_))); (case side2 => exact (Kd.S_reads' HO_5.out).2.1); rintro e w65 ⟨rfl, hb⟩; refine ⟨_, rfl, ?_⟩; have n0_ := Aside0.mk (Kd.S_below (by (with_reducible repeat (first | apply Kd.S_alloc | apply Kd.S_drewN | apply Kd.S_drew)); exact HO_5.out) hb); have n1_ := Aside0.mk (below_step (by repeat (first | (with_reducible first | exact HB.out | apply below_alloc | apply pw_below_drewN | apply below_drew1) | exact HB.out)) hb); clear HO_5; clear HB; have HO_5 := n0_; have HB := n1_; clear n0_ n1_; (try clear hb); (try clear hb2); (try clear hk); (try clear hi)))
                                                go_roundg k5
                                                case measure => have := HJ4.out; have := HK2.out; have := HJ16.out; have := HK4.out; have := HK5.out; omega
                                                case rel => exact ⟨(wrap64 (x11_5 + 1)), (by first | rfl | (simp; done) | (simp [*]; done)), H', ⟨by have := HJ4.out; have := HK2.out; have := HJ16.out; have := HK4.out; have := HK5.out; omega⟩, ⟨by (try simp only [hl5_4]); (with_reducible repeat (first | apply Kd.S_alloc | apply Kd.S_drewN | apply Kd.S_drew)); exact HO_5.out⟩, ⟨by repeat (first | (with_reducible first | exact HB.out | apply below_alloc | apply pw_below_drewN | apply below_drew1) | exact HB.out)⟩⟩
                                          · replace c52 := Bool.eq_false_iff.mpr c52
                                            subst c52
                                            have H1 : (some false) = some r := by rw [if_neg (show ¬ (false = true) by decide)] at H; exact H
                                            clear H
                                            have H := H1
                                            clear H1
                                            obtain rfl := Option.some.inj H
                                            go_wp2_with (first | ((with_reducible refine gate_callee (f := 16) rfl ?_); refine goesL_ (some 112) rfl rfl Try.func16 (by kernel_rfl) rfl #[.slice (some ⟨go29, 0, none⟩) y137.length co29, .int .i64 x11_5] rfl (by (try simp only [List.map_toArray, List.map_cons, List.map_nil]); first | done | rfl | (simp only [List.length_drop, List.length_take]; rfl)) ?_; (with_reducible refine (capstanlaw23_told.calls _ _ y137 x11_5 t140 false _ ?side1 ?side2 A51.out).mono ?_); (case side1 => repeat (first | exact (Kd.S_reads' HO_5.out).2.2 | (with_reducible refine Kd.C_alloc ?_ _) | (with_reducible refine Kd.C_drewN ?_ _) | (with_reducible refine Kd.C_drew ?_))); (case side2 => exact (Kd.S_reads' HO_5.out).2.1); rintro e w66 ⟨rfl, hb⟩; refine ⟨_, rfl, ?_⟩; have n0_ := Aside0.mk (Kd.S_below (by (with_reducible repeat (first | apply Kd.S_alloc | apply Kd.S_drewN | apply Kd.S_drew)); exact HO_5.out) hb); have n1_ := Aside0.mk (below_step (by repeat (first | (with_reducible first | exact HB.out | apply below_alloc | apply pw_below_drewN | apply below_drew1) | exact HB.out)) hb); clear HO_5; clear HB; have HO_5 := n0_; have HB := n1_; clear n0_ n1_; (try clear hb); (try clear hb2); (try clear hk); (try clear hi)))
                                            go_ret
                                            exact ⟨by first | rfl | (simp [errW_none, errW_some] <;> rfl) | (simp [*, errW_none, errW_some] <;> rfl), by repeat (first | (with_reducible first | exact HB.out | apply below_alloc | apply pw_below_drewN | apply below_drew1) | exact HB.out)⟩
                                        · rw [if_neg c50] at H
                                          have c50b0 : decide (x11_5 ≤ (wrap64 ((wrap64 (x6_2 + a0)) + 1))) = false := decide_eq_false c50
                                          clear c50
                                          have H' := Aside0.mk H
                                          clear H
                                          go_wp2
                                          (try simp only [← hl5_4])
                                          go_roundg k5
                                          case measure => have := HJ4.out; have := HK2.out; have := HJ16.out; have := HK4.out; have := HK5.out; omega
                                          case rel => exact ⟨(y137), (wrap64 (x6_2 + 1)), (by first | rfl | (simp; done) | (simp [*]; done)), H', ⟨by have := HJ4.out; have := HK2.out; have := HJ16.out; have := HK4.out; have := HK5.out; omega⟩, ⟨by (try simp only [hl5_4]); (with_reducible repeat (first | apply Kd.S_alloc | apply Kd.S_drewN | apply Kd.S_drew)); exact HO_5.out⟩, ⟨by repeat (first | (with_reducible first | exact HB.out | apply below_alloc | apply pw_below_drewN | apply below_drew1) | exact HB.out)⟩⟩
                            · rw [if_neg c28] at H
                              exact absurd H (by simp)
                          · rw [if_neg c27] at H
                            exact absurd H (by simp)
                  · rw [if_neg c15] at H
                    have c15b0 : decide (x6_2 ≤ a1) = false := decide_eq_false c15
                    clear c15
                    obtain rfl := Option.some.inj H
                    go_wp2
                    go_ret
                    exact ⟨by first | rfl | (simp [errW_none, errW_some] <;> rfl) | (simp [*, errW_none, errW_some] <;> rfl), by repeat (first | (with_reducible first | exact HB.out | apply below_alloc | apply pw_below_drewN | apply below_drew1) | exact HB.out)⟩
            · rw [if_neg c12] at H
              exact absurd H (by simp)
          · rw [if_neg c11] at H
            exact absurd H (by simp)
  · replace c4 := Bool.eq_false_iff.mpr c4
    subst c4
    have H1 : (some false) = some r := by rw [if_neg (show ¬ (false = true) by decide)] at H; exact H
    clear H
    have H := H1
    clear H1
    obtain rfl := Option.some.inj H
    go_enter Try.func5, Try.ntmps5
    go_wp2_with (first | ((with_reducible refine gate_callee (f := 10) rfl ?_); refine goesL_ (some 14) rfl rfl Try.func10 (by kernel_rfl) rfl #[] rfl (by (try simp only [List.map_toArray, List.map_cons, List.map_nil]); first | done | rfl | (simp only [List.length_drop, List.length_take]; rfl)) ?_; (with_reducible refine (capstanlaw23_awake.calls  false _ A3.out).mono ?_); rintro e w67 ⟨rfl, hb⟩; refine ⟨_, rfl, ?_⟩; have n0_ := Aside0.mk (below_step (by repeat (first | (with_reducible first | exact HB.out | apply below_alloc | apply pw_below_drewN | apply below_drew1) | exact HB.out)) hb); clear HB; have HB := n0_; clear n0_; (try clear hb); (try clear hb2); (try clear hk); (try clear hi)))
    go_ret
    exact ⟨by first | rfl | (simp [errW_none, errW_some] <;> rfl) | (simp [*, errW_none, errW_some] <;> rfl), by repeat (first | (with_reducible first | exact HB.out | apply below_alloc | apply pw_below_drewN | apply below_drew1) | exact HB.out)⟩

/-- THE ONE PURE STATEMENT of capstanlaw23_SlotRound: yours. -/
def capstanlaw23_SlotRound.Pure : Prop := ∀ (a0 : Int) (a1 : Int), (Lit.int .i64 a0).wf = true → (Lit.int .i64 a1).wf = true → ∃ k, capstanlaw23_SlotRound.f k a0 a1 = some true
theorem capstanlaw23_SlotRound.walk (P : capstanlaw23_SlotRound.Pure) (a0 : Int) (a1 : Int) (w : World) (w0 : (Lit.int .i64 a0).wf = true) (w1 : (Lit.int .i64 a1).wf = true) :
    Calls Try.prog 5 #[.int .i64 a0, .int .i64 a1] w fun e w' => e = .returned (.bool true) ∧ Below w.heap.size w w' := by
  obtain ⟨k, h⟩ := P a0 a1 w0 w1
  refine (capstanlaw23_SlotRound.calls k a0 a1 true w h).mono ?_
  rintro e w' ⟨rfl, hd⟩
  exact ⟨rfl, hd⟩

end Go.Proofs.Ytkjmnmcekhnkmaa.PSlotRound
