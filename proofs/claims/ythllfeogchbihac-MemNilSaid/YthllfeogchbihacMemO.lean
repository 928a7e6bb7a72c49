/- Memories that nobody made. -/
import Derived.Test.YthllfeogchbihacMemL
namespace Go.Proofs.Ythllfeogchbihac
open Go.RowKit
set_option linter.unusedSimpArgs false
set_option linter.unusedVariables false
def Un (W : World) (ptr : Option Addr) : Prop := ptr = none ∨ ∃ mg, ptr = some ⟨mg, 0, none⟩ ∧ Blk W mg [.slice none 0 0, .slice none 0 0, .int .i64 0, .slice none 0 0, .slice none 0 0, .slice none 0 0, .int .i64 0, .slice none 0 0, .slice none 0 0]
section
variable {W : World} {ptr : Option Addr}
theorem Un.below (h : Un W ptr) {W' : World} (hb : Below W.heap.size W W') : Un W' ptr := by
  rcases h with h | ⟨mg, h1, h2⟩
  · exact .inl h
  · exact .inr ⟨mg, h1, h2.below hb⟩
theorem un_procs (h : Un W ptr) : Calls Try.prog 26 #[.pointer ptr] W fun e W' => e = .returned (.int .i64 0) ∧ W' = W := by
  rcases h with rfl | ⟨mg, rfl, hb⟩
  · go_enter Try.func26, Try.ntmps26
    go_wp2_with fail
    go_ret
    exact ⟨rfl, rfl⟩
  · have c0 := hb.c 0 _ rfl
    have hl := hb.l
    clear hb
    go_enter Try.func26, Try.ntmps26
    go_wp2_with fail
    go_ret
    exact ⟨rfl, rfl⟩
theorem un_arena (h : Un W ptr) : Calls Try.prog 27 #[.pointer ptr] W fun e W' => e = .returned (.int .i64 0) ∧ W' = W := by
  rcases h with rfl | ⟨mg, rfl, hb⟩
  · go_enter Try.func27, Try.ntmps27
    go_wp2_with fail
    go_ret
    exact ⟨rfl, rfl⟩
  · have c0 := hb.c 1 _ rfl
    have hl := hb.l
    clear hb
    go_enter Try.func27, Try.ntmps27
    go_wp2_with fail
    go_ret
    exact ⟨rfl, rfl⟩
theorem un_has (h : Un W ptr) (p : Int) : Calls Try.prog 47 #[.pointer ptr, .int .i64 p] W fun e W' => e = .returned (.bool false) ∧ W' = W := by
  have HP := Lib.hid (un_procs h)
  clear h
  by_cases h0 : 0 ≤ p
  · have h1 : decide (p < 0) = false := decide_eq_false (by omega)
    go_enter Try.func47, Try.ntmps47
    go_wp2_with fail
    refine HP.out.mono ?_
    rintro e w1 ⟨rfl, rfl⟩
    go_wp2_with fail
    go_ret
    refine ⟨?_, rfl⟩
    simp [h0, h1]
  · have h1 : decide (0 ≤ p) = false := decide_eq_false h0
    go_enter Try.func47, Try.ntmps47
    go_wp2_with fail
    go_ret
    exact ⟨rfl, rfl⟩
theorem un_place (h : Un W ptr) (p : Int) : Calls Try.prog 30 #[.pointer ptr, .int .i64 p] W fun e W' => e = .returned (.bool false) ∧ W' = W := by
  have HP := Lib.hid (un_arena h)
  clear h
  by_cases h0 : 0 ≤ p
  · have h1 : decide (p < 0) = false := decide_eq_false (by omega)
    go_enter Try.func30, Try.ntmps30
    go_wp2_with fail
    refine HP.out.mono ?_
    rintro e w1 ⟨rfl, rfl⟩
    go_wp2_with fail
    go_ret
    refine ⟨?_, rfl⟩
    simp [h0, h1]
  · have h1 : decide (0 ≤ p) = false := decide_eq_false h0
    go_enter Try.func30, Try.ntmps30
    go_wp2_with fail
    go_ret
    exact ⟨rfl, rfl⟩
theorem un_steps (h : Un W ptr) (p : Int) : Calls Try.prog 25 #[.pointer ptr, .int .i64 p] W fun e W' => e = .returned (.int .i64 0) ∧ W' = W := by
  have HP := Lib.hid (un_has h p)
  clear h
  go_enter Try.func25, Try.ntmps25
  go_wp2_with fail
  refine HP.out.mono ?_
  rintro e w1 ⟨rfl, rfl⟩
  go_wp2_with fail
  go_ret
  exact ⟨rfl, rfl⟩
theorem un_held (h : Un W ptr) (p : Int) : Calls Try.prog 13 #[.pointer ptr, .int .i64 p] W fun e W' => e = .returned (sagg zs) ∧ Below W.heap.size W W' := by
  have hb0 : Below W.heap.size W (W.alloc (.cells #[.int .i64 0, .int .i64 0, .int .i64 0, .int .u8 0, .int .i64 0, .slice none 0 0, .slice none 0 0] 47)) := (Below.refl _ _).alloc (Nat.le_refl _) _
  have HP := Lib.hid (un_place (h.below hb0) p)
  unfold zs sagg
  dsimp only
  clear h hb0
  go_enter Try.func13, Try.ntmps13
  go_wp2_with fail
  refine HP.out.mono ?_
  rintro e w1 ⟨rfl, rfl⟩
  go_wp2_with fail
  refine bodyPost_ret (v := .agg #[.int .i64 0, .int .i64 0, .int .i64 0, .int .u8 0, .int .i64 0, .slice none 0 0, .slice none 0 0]) (by simp [results, Try.results13, go_sem]) rfl ⟨rfl, ?_⟩
  exact (Below.refl _ _).alloc (Nat.le_refl _) _
theorem un_told (h : Un W ptr) (p : Int) : Calls Try.prog 22 #[.pointer ptr, .int .i64 p] W fun e W' => e = .returned (.tuple #[aagg zp, .int .i64 0]) ∧ Below W.heap.size W W' := by
  have hb0 : Below W.heap.size W (W.alloc (.cells #[.int .i64 0, .int .u8 0, .int .i64 0, .slice none 0 0, .slice none 0 0] 68)) := (Below.refl _ _).alloc (Nat.le_refl _) _
  have HP := Lib.hid (un_has (h.below hb0) p)
  unfold zp aagg
  dsimp only
  clear h hb0
  go_enter Try.func22, Try.ntmps22
  go_wp2_with fail
  refine HP.out.mono ?_
  rintro e w1 ⟨rfl, rfl⟩
  go_wp2_with fail
  refine bodyPost_ret (v := .tuple #[.agg #[.int .i64 0, .int .u8 0, .int .i64 0, .slice none 0 0, .slice none 0 0], .int .i64 0]) (by simp [results, Try.results22, go_sem]) rfl ⟨rfl, ?_⟩
  exact (Below.refl _ _).alloc (Nat.le_refl _) _
set_option maxRecDepth 100000 in
set_option maxHeartbeats 2000000 in
theorem un_publ (h : Un W ptr) (p a : Int) : Calls Try.prog 20 #[.pointer ptr, .int .i64 p, .int .i64 a] W fun e W' => e = .returned (.tuple #[.int .i64 0, .bool false]) ∧ Below W.heap.size W W' := by
  obtain ⟨X, b0, b1, b2, hX, e0, e1, e2, hbX, p0, p1, p2⟩ := boxes3 W (.pointer ptr) (.int .i64 a) #[.int .i64 0] 3
  have hmf : ∀ (fn : Fn) (first cap : Array Value) (w : World), (Instr.makeFunc fn first cap).run Try.prog w = .ok (.func fn first cap) w := fun _ _ _ _ => rfl
  have h0 := h.below (below_drew hbX)
  have c0 := p0.c 0 _ rfl
  have c1 := p1.c 0 _ rfl
  have l0 := p0.l
  have l1 := p1.l
  have l2 := p2.l
  have HP := Lib.hid (un_has h0 a)
  have HMK := Lib.hid (make_no ptr p false (.func (.func 49) #[] #[.pointer (some ⟨b0, 0, none⟩), .pointer (some ⟨b1, 0, none⟩), .pointer (some ⟨b2, 0, none⟩)]) (un_has h0 p) rfl)
  have hb9 : Below W.heap.size W ((X.setCell ⟨b2, 0, none⟩ (.int .i64 0))).drew := below_drew (hbX.trans ((((Touch.refl (fun b => b = b2) X).setCell ⟨b2, 0, none⟩ (.int .i64 0) (fun _ => rfl))).below (n := W.heap.size) (by have := hbX.size; exact this) (fun b e => by rw [e]; omega)))
  have HFIN := Lib.hid hb9
  have bz := (p2.set (j := 0) rfl (.int .i64 0))
  have r0 := bz.drew.c 0 _ rfl
  have s0 := p2.c 0 _ rfl
  have sf0 := p2.f 0
  clear p0 p1 p2 h0 h hbX hb9 bz
  have HE := Lib.hid (And.intro hX (And.intro e0 (And.intro e1 e2)))
  clear hX e0 e1 e2
  go_enter Try.func20, Try.ntmps20
  go_wp2_with fail
  rw [HE.out.1, HE.out.2.2.2, HE.out.2.2.1, HE.out.2.1]
  clear HE
  go_region_held3 (fun w' => w'.cell? ⟨b0, 0, none⟩ = some (.pointer ptr) ∧ w'.cell? ⟨b1, 0, none⟩ = some (.int .i64 a))
    ((first | (refine ⟨?_, ?_⟩ <;> simp [*]) | fail))
    (first
      | (go_at_call 47; refine HP.out.mono ?_; rintro e w4 ⟨rfl, rfl⟩)
      | (go_at_call 29; refine HMK.out.mono ?_; rintro e w5 ⟨rfl, rfl⟩)
      | fail)
  go_wp2_with fail
  all_goals (refine bodyPost_ret (v := .tuple #[.int .i64 0, .bool false]) (publ_at_res _ _ _ _ rfl rfl r0) rfl ⟨rfl, HFIN.out⟩)
set_option maxRecDepth 100000 in
set_option maxHeartbeats 2000000 in
theorem un_slot (h : Un W ptr) (p a : Int) : Calls Try.prog 21 #[.pointer ptr, .int .i64 p, .int .i64 a] W fun e W' => e = .returned (.tuple #[.agg #[.int .i64 0, .int .i64 0, .int .i64 0, .int .u8 0, .int .i64 0, .slice none 0 0, .slice none 0 0], .bool false]) ∧ Below W.heap.size W W' := by
  obtain ⟨X, b0, b1, b2, hX, e0, e1, e2, hbX, p0, p1, p2⟩ := boxes3 W (.pointer ptr) (.int .i64 a) #[.int .i64 0, .int .i64 0, .int .i64 0, .int .u8 0, .int .i64 0, .slice none 0 0, .slice none 0 0] 47
  have hmf : ∀ (fn : Fn) (first cap : Array Value) (w : World), (Instr.makeFunc fn first cap).run Try.prog w = .ok (.func fn first cap) w := fun _ _ _ _ => rfl
  have h0 := h.below (below_drew hbX)
  have c0 := p0.c 0 _ rfl
  have c1 := p1.c 0 _ rfl
  have l0 := p0.l
  have l1 := p1.l
  have l2 := p2.l
  have HP := Lib.hid (un_place h0 a)
  have HMK := Lib.hid (make_no ptr p false (.func (.func 50) #[] #[.pointer (some ⟨b0, 0, none⟩), .pointer (some ⟨b1, 0, none⟩), .pointer (some ⟨b2, 0, none⟩)]) (un_has h0 p) rfl)
  have hb9 : Below W.heap.size W ((((((((X.setCell ⟨b2, 0, none⟩ (.int .i64 0)).setCell ⟨b2, 1, none⟩ (.int .i64 0)).setCell ⟨b2, 2, none⟩ (.int .i64 0)).setCell ⟨b2, 3, none⟩ (.int .u8 0)).setCell ⟨b2, 4, none⟩ (.int .i64 0)).setCell ⟨b2, 5, none⟩ (.slice none 0 0)).setCell ⟨b2, 6, none⟩ (.slice none 0 0))).drew := below_drew (hbX.trans ((((((((((Touch.refl (fun b => b = b2) X).setCell ⟨b2, 0, none⟩ (.int .i64 0) (fun _ => rfl)).setCell ⟨b2, 1, none⟩ (.int .i64 0) (fun _ => rfl)).setCell ⟨b2, 2, none⟩ (.int .i64 0) (fun _ => rfl)).setCell ⟨b2, 3, none⟩ (.int .u8 0) (fun _ => rfl)).setCell ⟨b2, 4, none⟩ (.int .i64 0) (fun _ => rfl)).setCell ⟨b2, 5, none⟩ (.slice none 0 0) (fun _ => rfl)).setCell ⟨b2, 6, none⟩ (.slice none 0 0) (fun _ => rfl))).below (n := W.heap.size) (by have := hbX.size; exact this) (fun b e => by rw [e]; omega)))
  have HFIN := Lib.hid hb9
  have bz := (((((((p2.set (j := 0) rfl (.int .i64 0)).set (j := 1) rfl (.int .i64 0)).set (j := 2) rfl (.int .i64 0)).set (j := 3) rfl (.int .u8 0)).set (j := 4) rfl (.int .i64 0)).set (j := 5) rfl (.slice none 0 0)).set (j := 6) rfl (.slice none 0 0))
  have r0 := bz.drew.c 0 _ rfl
  have r1 := bz.drew.c 1 _ rfl
  have r2 := bz.drew.c 2 _ rfl
  have r3 := bz.drew.c 3 _ rfl
  have r4 := bz.drew.c 4 _ rfl
  have r5 := bz.drew.c 5 _ rfl
  have r6 := bz.drew.c 6 _ rfl
  have s0 := p2.c 0 _ rfl
  have sf0 := p2.f 0
  have s1 := p2.c 1 _ rfl
  have sf1 := p2.f 1
  have s2 := p2.c 2 _ rfl
  have sf2 := p2.f 2
  have s3 := p2.c 3 _ rfl
  have sf3 := p2.f 3
  have s4 := p2.c 4 _ rfl
  have sf4 := p2.f 4
  have s5 := p2.c 5 _ rfl
  have sf5 := p2.f 5
  have s6 := p2.c 6 _ rfl
  have sf6 := p2.f 6
  clear p0 p1 p2 h0 h hbX hb9 bz
  have HE := Lib.hid (And.intro hX (And.intro e0 (And.intro e1 e2)))
  clear hX e0 e1 e2
  go_enter Try.func21, Try.ntmps21
  go_wp2_with fail
  rw [HE.out.1, HE.out.2.2.2, HE.out.2.2.1, HE.out.2.1]
  clear HE
  go_region_held3 (fun w' => w'.cell? ⟨b0, 0, none⟩ = some (.pointer ptr) ∧ w'.cell? ⟨b1, 0, none⟩ = some (.int .i64 a))
    ((first | (refine ⟨?_, ?_⟩ <;> simp [*]) | fail))
    (first
      | (go_at_call 30; refine HP.out.mono ?_; rintro e w4 ⟨rfl, rfl⟩)
      | (go_at_call 29; refine HMK.out.mono ?_; rintro e w5 ⟨rfl, rfl⟩)
      | fail)
  go_wp2_with fail
  all_goals (refine bodyPost_ret (v := .tuple #[.agg #[.int .i64 0, .int .i64 0, .int .i64 0, .int .u8 0, .int .i64 0, .slice none 0 0, .slice none 0 0], .bool false]) (slot_at_res _ _ _ _ rfl rfl r0 r1 r2 r3 r4 r5 r6) rfl ⟨rfl, HFIN.out⟩)
set_option maxRecDepth 100000 in
set_option maxHeartbeats 2000000 in
theorem un_annd (h : Un W ptr) (p a : Int) : Calls Try.prog 19 #[.pointer ptr, .int .i64 p, .int .i64 a] W fun e W' => e = .returned (.tuple #[.agg #[.int .i64 0, .int .u8 0, .int .i64 0, .slice none 0 0, .slice none 0 0], .bool false]) ∧ Below W.heap.size W W' := by
  obtain ⟨X, b0, b1, b2, hX, e0, e1, e2, hbX, p0, p1, p2⟩ := boxes3 W (.pointer ptr) (.int .i64 a) #[.int .i64 0, .int .u8 0, .int .i64 0, .slice none 0 0, .slice none 0 0] 68
  have hmf : ∀ (fn : Fn) (first cap : Array Value) (w : World), (Instr.makeFunc fn first cap).run Try.prog w = .ok (.func fn first cap) w := fun _ _ _ _ => rfl
  have h0 := h.below (below_drew hbX)
  have c0 := p0.c 0 _ rfl
  have c1 := p1.c 0 _ rfl
  have l0 := p0.l
  have l1 := p1.l
  have l2 := p2.l
  have HP := Lib.hid (un_has h0 a)
  have HMK := Lib.hid (make_no ptr p false (.func (.func 48) #[] #[.pointer (some ⟨b0, 0, none⟩), .pointer (some ⟨b1, 0, none⟩), .pointer (some ⟨b2, 0, none⟩)]) (un_has h0 p) rfl)
  have hb9 : Below W.heap.size W ((((((X.setCell ⟨b2, 0, none⟩ (.int .i64 0)).setCell ⟨b2, 1, none⟩ (.int .u8 0)).setCell ⟨b2, 2, none⟩ (.int .i64 0)).setCell ⟨b2, 3, none⟩ (.slice none 0 0)).setCell ⟨b2, 4, none⟩ (.slice none 0 0))).drew := below_drew (hbX.trans ((((((((Touch.refl (fun b => b = b2) X).setCell ⟨b2, 0, none⟩ (.int .i64 0) (fun _ => rfl)).setCell ⟨b2, 1, none⟩ (.int .u8 0) (fun _ => rfl)).setCell ⟨b2, 2, none⟩ (.int .i64 0) (fun _ => rfl)).setCell ⟨b2, 3, none⟩ (.slice none 0 0) (fun _ => rfl)).setCell ⟨b2, 4, none⟩ (.slice none 0 0) (fun _ => rfl))).below (n := W.heap.size) (by have := hbX.size; exact this) (fun b e => by rw [e]; omega)))
  have HFIN := Lib.hid hb9
  have bz := (((((p2.set (j := 0) rfl (.int .i64 0)).set (j := 1) rfl (.int .u8 0)).set (j := 2) rfl (.int .i64 0)).set (j := 3) rfl (.slice none 0 0)).set (j := 4) rfl (.slice none 0 0))
  have r0 := bz.drew.c 0 _ rfl
  have r1 := bz.drew.c 1 _ rfl
  have r2 := bz.drew.c 2 _ rfl
  have r3 := bz.drew.c 3 _ rfl
  have r4 := bz.drew.c 4 _ rfl
  have s0 := p2.c 0 _ rfl
  have sf0 := p2.f 0
  have s1 := p2.c 1 _ rfl
  have sf1 := p2.f 1
  have s2 := p2.c 2 _ rfl
  have sf2 := p2.f 2
  have s3 := p2.c 3 _ rfl
  have sf3 := p2.f 3
  have s4 := p2.c 4 _ rfl
  have sf4 := p2.f 4
  clear p0 p1 p2 h0 h hbX hb9 bz
  have HE := Lib.hid (And.intro hX (And.intro e0 (And.intro e1 e2)))
  clear hX e0 e1 e2
  go_enter Try.func19, Try.ntmps19
  go_wp2_with fail
  rw [HE.out.1, HE.out.2.2.2, HE.out.2.2.1, HE.out.2.1]
  clear HE
  go_region_held3 (fun w' => w'.cell? ⟨b0, 0, none⟩ = some (.pointer ptr) ∧ w'.cell? ⟨b1, 0, none⟩ = some (.int .i64 a))
    ((first | (refine ⟨?_, ?_⟩ <;> simp [*]) | fail))
    (first
      | (go_at_call 47; refine HP.out.mono ?_; rintro e w4 ⟨rfl, rfl⟩)
      | (go_at_call 29; refine HMK.out.mono ?_; rintro e w5 ⟨rfl, rfl⟩)
      | fail)
  go_wp2_with fail
  all_goals (refine bodyPost_ret (v := .tuple #[.agg #[.int .i64 0, .int .u8 0, .int .i64 0, .slice none 0 0, .slice none 0 0], .bool false]) (annd_at_res _ _ _ _ rfl rfl r0 r1 r2 r3 r4) rfl ⟨rfl, HFIN.out⟩)
set_option maxRecDepth 100000 in
set_option maxHeartbeats 2000000 in
theorem un_swap (h : Un W ptr) (p a : Int) (old next : S7) : Calls Try.prog 10 #[.pointer ptr, .int .i64 p, .int .i64 a, sagg old, sagg next] W fun e W' => e = .returned (bool2 false false) ∧ Below W.heap.size W W' := by
  obtain ⟨X, b0, b1, b2, b3, b4, hX, e0, e1, e2, e3, e4, hbX, p0, p1, p2, p3, p4⟩ := boxes5 W (.pointer ptr) (.int .i64 a) old next
  have hmf : ∀ (fn : Fn) (first cap : Array Value) (w : World), (Instr.makeFunc fn first cap).run Try.prog w = .ok (.func fn first cap) w := fun _ _ _ _ => rfl
  have h0 := h.below (below_drew hbX)
  have c0 := p0.c 0 _ rfl
  have c1 := p1.c 0 _ rfl
  have c4 := p4.c 0 _ rfl
  have l0 := p0.l
  have l1 := p1.l
  have l4 := p4.l
  have HP := Lib.hid (un_place h0 a)
  have HMK := Lib.hid (make_no ptr p false (.func (.func 31) #[] #[.pointer (some ⟨b0, 0, none⟩), .pointer (some ⟨b1, 0, none⟩), .pointer (some ⟨b2, 0, none⟩), .pointer (some ⟨b4, 0, none⟩), .pointer (some ⟨b3, 0, none⟩)]) (un_has h0 p) rfl)
  have hb9 : Below W.heap.size W (X.setCell ⟨b4, 0, none⟩ (.bool false)).drew := below_drew (Blk.below_set hbX (by omega) _ _)
  have HFIN := Lib.hid hb9
  have s4 := p4.drew.c 0 _ rfl
  have s4f := p4.drew.f 0
  have s4l := p4.drew.l
  have r4 : (X.setCell ⟨b4, 0, none⟩ (.bool false)).cell? ⟨b4, 0, none⟩ = some (.bool false) := World.cell?_setCell_same' _ _ _ (by rw [c4]; rfl)
  clear p0 p1 p2 p3 p4 h0 h hbX hb9
  unfold bool2 sagg
  have HE := Lib.hid (And.intro hX (And.intro e0 (And.intro e1 (And.intro e2 (And.intro e3 e4)))))
  clear hX e0 e1 e2 e3 e4
  go_enter Try.func10, Try.ntmps10
  go_wp2_with fail
  rw [HE.out.1, HE.out.2.2.2.2.2, HE.out.2.2.2.2.1, HE.out.2.2.2.1, HE.out.2.2.1, HE.out.2.1]
  clear HE
  go_region_held3 (fun w' => w'.cell? ⟨b0, 0, none⟩ = some (.pointer ptr) ∧ w'.cell? ⟨b1, 0, none⟩ = some (.int .i64 a))
    ((first | (refine ⟨?_, ?_⟩ <;> simp [*]) | fail))
    (first
      | (go_at_call 30; refine HP.out.mono ?_; rintro e w4 ⟨rfl, rfl⟩)
      | (go_at_call 29; refine HMK.out.mono ?_; rintro e w5 ⟨rfl, rfl⟩)
      | fail)
  go_wp2_with fail
  all_goals (refine bodyPost_ret (v := .tuple #[.bool false, .bool false]) ?_ rfl ⟨rfl, HFIN.out⟩; simp [results, Try.results10, go_sem, r4])
set_option maxRecDepth 100000 in
set_option maxHeartbeats 2000000 in
theorem un_snap (h : Un W ptr) (p : Int) : Calls Try.prog 12 #[.pointer ptr, .int .i64 p] W fun e W' => e = .returned (.tuple #[nagg zn, .bool false]) ∧ Below W.heap.size W W' := by
  obtain ⟨X, b0, b1, hX, e0, e1, hbX, p0, p1⟩ := boxes2 W (.pointer ptr) #[.int .i64 0, .slice none 0 0, .slice none 0 0, .slice none 0 0, .int .i64 0, .slice none 0 0, .slice none 0 0] 50
  have hmf : ∀ (fn : Fn) (first cap : Array Value) (w : World), (Instr.makeFunc fn first cap).run Try.prog w = .ok (.func fn first cap) w := fun _ _ _ _ => rfl
  have h0 := h.below hbX
  have c0 := p0.c 0 _ rfl
  have l0 := p0.l
  have l1 := p1.l
  have HMK := Lib.hid (make_no ptr p true (.func (.func 33) #[] #[.pointer (some ⟨b0, 0, none⟩), .pointer (some ⟨b1, 0, none⟩)]) (un_has h0 p) rfl)
  have hb9 : Below W.heap.size W (((((((X.setCell ⟨b1, 0, none⟩ (.int .i64 0)).setCell ⟨b1, 1, none⟩ (.slice none 0 0)).setCell ⟨b1, 2, none⟩ (.slice none 0 0)).setCell ⟨b1, 3, none⟩ (.slice none 0 0)).setCell ⟨b1, 4, none⟩ (.int .i64 0)).setCell ⟨b1, 5, none⟩ (.slice none 0 0)).setCell ⟨b1, 6, none⟩ (.slice none 0 0)) := hbX.trans ((((((((((Touch.refl (fun b => b = b1) X).setCell ⟨b1, 0, none⟩ (.int .i64 0) (fun _ => rfl)).setCell ⟨b1, 1, none⟩ (.slice none 0 0) (fun _ => rfl)).setCell ⟨b1, 2, none⟩ (.slice none 0 0) (fun _ => rfl)).setCell ⟨b1, 3, none⟩ (.slice none 0 0) (fun _ => rfl)).setCell ⟨b1, 4, none⟩ (.int .i64 0) (fun _ => rfl)).setCell ⟨b1, 5, none⟩ (.slice none 0 0) (fun _ => rfl)).setCell ⟨b1, 6, none⟩ (.slice none 0 0) (fun _ => rfl))).below (n := W.heap.size) (by have := hbX.size; exact this) (fun b e => by rw [e]; omega))
  have HFIN := Lib.hid hb9
  have bz := (((((((p1.set (j := 0) rfl (.int .i64 0)).set (j := 1) rfl (.slice none 0 0)).set (j := 2) rfl (.slice none 0 0)).set (j := 3) rfl (.slice none 0 0)).set (j := 4) rfl (.int .i64 0)).set (j := 5) rfl (.slice none 0 0)).set (j := 6) rfl (.slice none 0 0))
  have r0 := bz.c 0 _ rfl
  have r1 := bz.c 1 _ rfl
  have r2 := bz.c 2 _ rfl
  have r3 := bz.c 3 _ rfl
  have r4 := bz.c 4 _ rfl
  have r5 := bz.c 5 _ rfl
  have r6 := bz.c 6 _ rfl
  have s0 := p1.c 0 _ rfl
  have sf0 := p1.f 0
  have s1 := p1.c 1 _ rfl
  have sf1 := p1.f 1
  have s2 := p1.c 2 _ rfl
  have sf2 := p1.f 2
  have s3 := p1.c 3 _ rfl
  have sf3 := p1.f 3
  have s4 := p1.c 4 _ rfl
  have sf4 := p1.f 4
  have s5 := p1.c 5 _ rfl
  have sf5 := p1.f 5
  have s6 := p1.c 6 _ rfl
  have sf6 := p1.f 6
  clear p0 p1 h0 h hbX hb9 bz
  have HE := Lib.hid (And.intro hX (And.intro e0 e1))
  clear hX e0 e1
  go_enter Try.func12, Try.ntmps12
  go_wp2_with fail
  rw [HE.out.1, HE.out.2.2, HE.out.2.1]
  clear HE
  go_wp2_with fail
  refine HMK.out.mono ?_
  rintro e w5 ⟨rfl, rfl⟩
  go_wp2_with fail
  all_goals (refine bodyPost_ret (v := .tuple #[nagg zn, .bool false]) (snap_res (x := zn) _ _ _ _ rfl rfl r0 r1 r2 r3 r4 r5 r6) rfl ⟨rfl, HFIN.out⟩)
set_option maxRecDepth 100000 in
set_option maxHeartbeats 2000000 in
theorem un_swaps (h : Un W ptr) (p old : Int) (x : N7) : Calls Try.prog 11 #[.pointer ptr, .int .i64 p, .int .i64 old, nagg x] W fun e W' => e = .returned (bool2 false false) ∧ Below W.heap.size W W' := by
  obtain ⟨X, b0, b1, b2, b3, hX, e0, e1, e2, e3, hbX, p0, p1, p2, p3⟩ := boxes4 W (.pointer ptr) (.int .i64 old) #[.int .i64 x.i, .slice none 0 0, .slice none 0 0, .slice none 0 0, .int .i64 0, .slice none 0 0, .slice x.A x.n x.c] 50
  have hmf : ∀ (fn : Fn) (first cap : Array Value) (w : World), (Instr.makeFunc fn first cap).run Try.prog w = .ok (.func fn first cap) w := fun _ _ _ _ => rfl
  have h0 := h.below hbX
  have c0 := p0.c 0 _ rfl
  have s3 := p3.c 0 _ rfl
  have l0 := p0.l
  have l1 := p1.l
  have l2 := p2.l
  have l3 := p3.l
  have HMK := Lib.hid (make_no ptr p true (.func (.func 32) #[] #[.pointer (some ⟨b0, 0, none⟩), .pointer (some ⟨b1, 0, none⟩), .pointer (some ⟨b3, 0, none⟩), .pointer (some ⟨b2, 0, none⟩)]) (un_has h0 p) rfl)
  have hb9 : Below W.heap.size W (X.setCell ⟨b3, 0, none⟩ (.bool false)) := Blk.below_set hbX (by omega) _ _
  have HFIN := Lib.hid hb9
  have sf3 := p3.f 0
  have r3 : (X.setCell ⟨b3, 0, none⟩ (.bool false)).cell? ⟨b3, 0, none⟩ = some (.bool false) := World.cell?_setCell_same' _ _ _ (by rw [s3]; rfl)
  clear p0 p1 p2 p3 h0 h hbX hb9
  unfold bool2 nagg
  have HE := Lib.hid (And.intro hX (And.intro e0 (And.intro e1 (And.intro e2 e3))))
  clear hX e0 e1 e2 e3
  go_enter Try.func11, Try.ntmps11
  go_wp2_with fail
  rw [HE.out.1, HE.out.2.2.2.2, HE.out.2.2.2.1, HE.out.2.2.1, HE.out.2.1]
  clear HE
  go_wp2_with fail
  refine HMK.out.mono ?_
  rintro e w5 ⟨rfl, rfl⟩
  go_wp2_with fail
  all_goals (refine bodyPost_ret (v := .tuple #[.bool false, .bool false]) (swaps_res _ _ _ _ _ rfl rfl r3) rfl ⟨rfl, HFIN.out⟩)
set_option maxRecDepth 100000 in
set_option maxHeartbeats 2000000 in
theorem un_annn (h : Un W ptr) (p : Int) (x : P7) : Calls Try.prog 23 #[.pointer ptr, .int .i64 p, aagg x] W fun e W' => e = .returned (.bool false) ∧ Below W.heap.size W W' := by
  obtain ⟨X, b0, b1, b2, hX, e0, e1, e2, hbX, p0, p1, p2⟩ := boxes3 W (.pointer ptr) (.int .i64 p) #[.int .i64 x.s, .int .u8 x.k, .int .i64 x.m, .slice none 0 0, .slice none 0 0] 68
  have hmf : ∀ (fn : Fn) (first cap : Array Value) (w : World), (Instr.makeFunc fn first cap).run Try.prog w = .ok (.func fn first cap) w := fun _ _ _ _ => rfl
  have c0 := p0.c 0 _ rfl
  have c1 := p1.c 0 _ rfl
  have l0 := p0.l
  have l1 := p1.l
  have l2 := p2.l
  have HMK := Lib.hid (make_no ptr p true (.func (.func 51) #[] #[.pointer (some ⟨b2, 0, none⟩), .pointer (some ⟨b0, 0, none⟩), .pointer (some ⟨b1, 0, none⟩)]) (un_has (h.below hbX) p) rfl)
  have HFIN := Lib.hid hbX
  clear p0 p1 p2 h hbX
  unfold aagg
  have HE := Lib.hid (And.intro hX (And.intro e0 (And.intro e1 e2)))
  clear hX e0 e1 e2
  go_enter Try.func23, Try.ntmps23
  go_wp2_with fail
  rw [HE.out.1, HE.out.2.2.2, HE.out.2.2.1, HE.out.2.1]
  clear HE
  go_wp2_with fail
  refine HMK.out.mono ?_
  rintro e w5 ⟨rfl, rfl⟩
  go_wp2_with fail
  go_ret
  exact ⟨rfl, HFIN.out⟩
set_option maxRecDepth 100000 in
set_option maxHeartbeats 2000000 in
theorem un_pubn (h : Un W ptr) (p : Int) (n : Int) : Calls Try.prog 24 #[.pointer ptr, .int .i64 p, .int .i64 n] W fun e W' => e = .returned (.bool false) ∧ Below W.heap.size W W' := by
  obtain ⟨X, b0, b1, b2, hX, e0, e1, e2, hbX, p0, p1, p2⟩ := boxes3 W (.pointer ptr) (.int .i64 p) #[.int .i64 n] 3
  have hmf : ∀ (fn : Fn) (first cap : Array Value) (w : World), (Instr.makeFunc fn first cap).run Try.prog w = .ok (.func fn first cap) w := fun _ _ _ _ => rfl
  have c0 := p0.c 0 _ rfl
  have c1 := p1.c 0 _ rfl
  have l0 := p0.l
  have l1 := p1.l
  have l2 := p2.l
  have HMK := Lib.hid (make_no ptr p true (.func (.func 52) #[] #[.pointer (some ⟨b2, 0, none⟩), .pointer (some ⟨b0, 0, none⟩), .pointer (some ⟨b1, 0, none⟩)]) (un_has (h.below hbX) p) rfl)
  have HFIN := Lib.hid hbX
  clear p0 p1 p2 h hbX
  skip
  have HE := Lib.hid (And.intro hX (And.intro e0 (And.intro e1 e2)))
  clear hX e0 e1 e2
  go_enter Try.func24, Try.ntmps24
  go_wp2_with fail
  rw [HE.out.1, HE.out.2.2.2, HE.out.2.2.1, HE.out.2.1]
  clear HE
  go_wp2_with fail
  refine HMK.out.mono ?_
  rintro e w5 ⟨rfl, rfl⟩
  go_wp2_with fail
  go_ret
  exact ⟨rfl, HFIN.out⟩
end
end Go.Proofs.Ythllfeogchbihac
