/- MemNil: the law's walk. -/
import Derived.Test.YthllfeogchbihacMemO
import Derived.Test.YthllfeogchbihacMemM
namespace Go.Proofs.Ythllfeogchbihac
open Go.RowKit
set_option linter.unusedSimpArgs false
set_option linter.unusedVariables false
def NilIn (W : World) (bx bs : Nat) (p q : Int) (ptr : Option Addr) : Prop := W.cell? ⟨bx, 1, none⟩ = some (.int .i64 p) ∧ W.cell? ⟨bx, 2, none⟩ = some (.int .i64 q) ∧ bx < W.heap.size ∧ Un W ptr
theorem nil_start (w : World) (k p q x y z : Int) : ∃ X bx bm bs, (((w.alloc (.cells #[.int .u8 k, .int .i64 p, .int .i64 q, .int .i64 x, .int .i64 y, .int .i64 z] 38)).alloc (.cells #[.slice none 0 0, .slice none 0 0, .int .i64 0, .slice none 0 0, .slice none 0 0, .slice none 0 0, .int .i64 0, .slice none 0 0, .slice none 0 0] 65)).alloc (.cells #[.pointer none, .pointer (some ⟨w.heap.size + 1, 0, none⟩)] 25)) = X ∧ w.heap.size = bx ∧ w.heap.size + 1 = bm ∧ w.heap.size + 1 + 1 = bs ∧ Below w.heap.size w X ∧ Blk X bx [.int .u8 k, .int .i64 p, .int .i64 q, .int .i64 x, .int .i64 y, .int .i64 z] ∧ Un X (some ⟨bm, 0, none⟩) ∧ Blk X bs [.pointer none, .pointer (some ⟨bm, 0, none⟩)] := by
  refine ⟨_, _, _, _, rfl, rfl, rfl, rfl, (((Below.refl _ _).alloc (Nat.le_refl _) _).alloc (by simp) _).alloc (by simp <;> omega) _, ((Blk.new w _ _).alloc _).alloc _, .inr ⟨_, rfl, ?_⟩, ?_⟩
  · have := (Blk.new (w.alloc (.cells #[.int .u8 k, .int .i64 p, .int .i64 q, .int .i64 x, .int .i64 y, .int .i64 z] 38)) #[.slice none 0 0, .slice none 0 0, .int .i64 0, .slice none 0 0, .slice none 0 0, .slice none 0 0, .int .i64 0, .slice none 0 0, .slice none 0 0] 65).alloc (.cells #[.pointer none, .pointer (some ⟨w.heap.size + 1, 0, none⟩)] 25)
    simpa only [World.size_alloc] using this
  · have := Blk.new ((w.alloc (.cells #[.int .u8 k, .int .i64 p, .int .i64 q, .int .i64 x, .int .i64 y, .int .i64 z] 38)).alloc (.cells #[.slice none 0 0, .slice none 0 0, .int .i64 0, .slice none 0 0, .slice none 0 0, .slice none 0 0, .int .i64 0, .slice none 0 0, .slice none 0 0] 65)) #[.pointer none, .pointer (some ⟨w.heap.size + 1, 0, none⟩)] 25
    simpa only [World.size_alloc] using this
set_option maxRecDepth 100000 in
set_option maxHeartbeats 4000000 in
theorem nil_walk (w : World) (k p q x y z : Int) : Calls Try.prog 5 #[.agg #[.int .u8 k, .int .i64 p, .int .i64 q, .int .i64 x, .int .i64 y, .int .i64 z]] w fun e w' => e = .returned (.bool true) ∧ Below w.heap.size w w' := by
  obtain ⟨X, bx, bm, bs, hX, e0, e1, e2, hbX, hx, hu, hs⟩ := nil_start w k p q x y z
  have HA := Lib.hid awake_ok
  have HX : Hid (∀ W, Below X.heap.size X W → ∀ j : Nat, j < 2 → ∃ ptr, W.cell? ⟨bs, j, none⟩ = some (.pointer ptr) ∧ bs < W.heap.size ∧ ∀ V, Below W.heap.size W V → NilIn V bx bs p q ptr) := Lib.hid (by
    intro W hW j hj
    have b1 := hs.below hW
    have b2 := hx.below hW
    have hj : j = 0 ∨ j = 1 := by omega
    rcases hj with rfl | rfl
    · exact ⟨none, b1.c 0 _ rfl, b1.l, fun V hV => ⟨(b2.below hV).c 1 _ rfl, (b2.below hV).c 2 _ rfl, (b2.below hV).l, .inl rfl⟩⟩
    · exact ⟨_, b1.c 1 _ rfl, b1.l, fun V hV => ⟨(b2.below hV).c 1 _ rfl, (b2.below hV).c 2 _ rfl, (b2.below hV).l, (hu.below hW).below hV⟩⟩)
  have HB := Lib.hid hbX
  have HE := Lib.hid (And.intro hX (And.intro e0 (And.intro e1 e2)))
  clear hX e0 e1 e2 hbX hx hu hs
  go_enter Try.func5, Try.ntmps5
  go_wp2_with fail
  rw [HE.out.1, HE.out.2.2.2, HE.out.2.1]
  clear HE
  go_loopw [5] (fun i wr => ∃ (j : Nat), j ≤ 2 ∧ i = .int .i64 j ∧ Below X.heap.size X wr) (fun i _ => 2 - (intOf i).toNat)
  case atStart => exact ⟨0, by omega, rfl, Below.refl _ _⟩
  case round =>
    obtain ⟨j, hj, rfl, hwr⟩ := hrel
    by_cases hlt : j < 2
    · obtain ⟨ptr, hc, hl, hn⟩ := HX.out _ hwr j hlt
      have HN := Lib.hid hn
      have HW := Lib.hid hwr
      have hfd := field47
      have j2 : (j : Int) < 2 := by omega
      obtain ⟨d1, d2, lx, hu⟩ := hn wr (Below.refl _ _)
      clear hu hn hwr
      go_wp2_with fail
      refine (un_annd (HN.out _ (Below.refl _ _)).2.2.2 p q).mono ?_
      rintro e v1 ⟨rfl, hb1⟩
      have HV1 := Lib.hid (below_next (Below.refl _ _) hb1)
      obtain ⟨d1, d2, lx, -⟩ := HN.out _ HV1.out
      clear hb1
      have HW1 := Lib.hid (HV1.out.alloc (HV1.out.size) (.cells #[.int .i64 0, .int .u8 0, .int .i64 0, .slice none 0 0, .slice none 0 0] 68))
      have nl1 : bx ≠ v1.heap.size := by omega
      go_wp2_with fail
      refine (un_publ (HN.out _ (HW1.out)).2.2.2 p q).mono ?_
      rintro e v2 ⟨rfl, hb2⟩
      have HV2 := Lib.hid (below_next (HW1.out) hb2)
      obtain ⟨d1, d2, lx, -⟩ := HN.out _ HV2.out
      clear hb2
      go_wp2_with fail
      refine (un_slot (HN.out _ (HV2.out)).2.2.2 p q).mono ?_
      rintro e v3 ⟨rfl, hb3⟩
      have HV3 := Lib.hid (below_next (HV2.out) hb3)
      obtain ⟨d1, d2, lx, -⟩ := HN.out _ HV3.out
      clear hb3
      have HW3 := Lib.hid (HV3.out.alloc (HV3.out.size) (.cells #[.int .i64 0, .int .i64 0, .int .i64 0, .int .u8 0, .int .i64 0, .slice none 0 0, .slice none 0 0] 47))
      have nl3 : bx ≠ v3.heap.size := by omega
      go_wp2_with fail
      refine (un_swap (HN.out _ (HW3.out)).2.2.2 p q zs (s1 1)).mono ?_
      rintro e v4 ⟨rfl, hb4⟩
      have HV4 := Lib.hid (below_next (HW3.out) hb4)
      obtain ⟨d1, d2, lx, -⟩ := HN.out _ HV4.out
      clear hb4
      unfold bool2
      go_wp2_with fail
      refine (un_snap (HN.out _ (HV4.out)).2.2.2 p).mono ?_
      rintro e v5 ⟨rfl, hb5⟩
      have HV5 := Lib.hid (below_next (HV4.out) hb5)
      obtain ⟨d1, d2, lx, -⟩ := HN.out _ HV5.out
      clear hb5
      have HW5 := Lib.hid (HV5.out.alloc (HV5.out.size) (.cells #[.int .i64 0, .slice none 0 0, .slice none 0 0, .slice none 0 0, .int .i64 0, .slice none 0 0, .slice none 0 0] 50))
      have nl5 : bx ≠ v5.heap.size := by omega
      unfold nagg zn
      dsimp only
      go_wp2_with fail
      refine (un_swaps (HN.out _ (HW5.out)).2.2.2 p 0 (n1 1)).mono ?_
      rintro e v6 ⟨rfl, hb6⟩
      have HV6 := Lib.hid (below_next (HW5.out) hb6)
      obtain ⟨d1, d2, lx, -⟩ := HN.out _ HV6.out
      clear hb6
      unfold bool2
      go_wp2_with fail
      refine (un_told (HN.out _ (HV6.out)).2.2.2 p).mono ?_
      rintro e v7 ⟨rfl, hb7⟩
      have HV7 := Lib.hid (below_next (HV6.out) hb7)
      obtain ⟨d1, d2, lx, -⟩ := HN.out _ HV7.out
      clear hb7
      have HW7 := Lib.hid (HV7.out.alloc (HV7.out.size) (.cells #[.int .i64 0, .int .u8 0, .int .i64 0, .slice none 0 0, .slice none 0 0] 68))
      have nl7 : bx ≠ v7.heap.size := by omega
      have HT7 := Lib.hid (Blk.new v7 #[.int .i64 0, .int .u8 0, .int .i64 0, .slice none 0 0, .slice none 0 0] 68)
      have nl7 : bx ≠ v7.heap.size := by omega
      unfold aagg zp
      dsimp only
      go_wp2_with fail
      refine (un_annn (HN.out _ (HW7.out)).2.2.2 p ⟨1, 0, 0, 0, 0⟩).mono ?_
      rintro e v8 ⟨rfl, hb8⟩
      have HV8 := Lib.hid (below_next (HW7.out) hb8)
      have HT8 := Lib.hid (HT7.out.below hb8)
      obtain ⟨d1, d2, lx, -⟩ := HN.out _ HV8.out
      clear hb8
      go_wp2_with fail
      refine (un_pubn (HN.out _ (HV8.out)).2.2.2 p 1).mono ?_
      rintro e v9 ⟨rfl, hb9⟩
      have HV9 := Lib.hid (below_next (HV8.out) hb9)
      have HT9 := Lib.hid (HT8.out.below hb9)
      obtain ⟨d1, d2, lx, -⟩ := HN.out _ HV9.out
      clear hb9
      go_wp2_with fail
      refine (un_steps (HN.out _ (HV9.out)).2.2.2 p).mono ?_
      rintro e vv ⟨rfl, rfl⟩
      go_wp2_with fail
      refine (un_held (HN.out _ (HV9.out)).2.2.2 q).mono ?_
      rintro e v10 ⟨rfl, hb10⟩
      have HV10 := Lib.hid (below_next (HV9.out) hb10)
      have HT10 := Lib.hid (HT9.out.below hb10)
      obtain ⟨d1, d2, lx, -⟩ := HN.out _ HV10.out
      clear hb10
      have t0 := HT10.out.c 0 _ rfl
      have tl := HT10.out.l
      unfold sagg zs
      dsimp only
      go_wp2_with fail
      refine (un_procs (HN.out _ (HV10.out)).2.2.2).mono ?_
      rintro e vv ⟨rfl, rfl⟩
      go_wp2_with fail
      refine (un_arena (HN.out _ (HV10.out)).2.2.2).mono ?_
      rintro e vv ⟨rfl, rfl⟩
      go_wp2_with fail
      go_roundw
      case rel => exact ⟨j + 1, by omega, by go_num, below_next HW.out HV10.out⟩
      case measure => simp [intOf]; omega
    · obtain rfl : j = 2 := by omega
      have hbw := below_next HB.out hwr
      go_wp2_with fail
      refine (HA.out _).mono ?_
      rintro e v ⟨rfl, hb⟩
      go_wp2_with fail
      go_ret
      exact ⟨rfl, below_next hbw hb⟩
set_option maxRecDepth 100000 in
theorem nil_all (c : Array Value) (w : World) (s : c.size = Try.prog.cellsOf 38) (d : deepOk Try.prog w 8 38 c.toList) :
    Calls Try.prog 5 #[.agg c] w fun e W' => e = .returned (.bool true) ∧ Below w.heap.size w W' := by
  rw [cells38] at s
  obtain ⟨l⟩ := c
  obtain ⟨k, p, q, x, y, z, h, -⟩ := mact_in (n := 6) s d
  have h : l = _ := h
  subst h
  exact nil_walk w k p q x y z
#print axioms nil_all
end Go.Proofs.Ythllfeogchbihac
