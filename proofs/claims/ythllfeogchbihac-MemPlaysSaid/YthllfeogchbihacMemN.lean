/- MemOne: the law's walk. -/
import Derived.Test.YthllfeogchbihacMemM
namespace Go.Proofs.Ythllfeogchbihac
open Go.RowKit
set_option linter.unusedSimpArgs false
set_option linter.unusedVariables false
theorem MO.base {w w1 W : World} {mg : Nat} {M : Me} {K : Nat → Prop} (h : MO w1 W mg M K) (hb : Below w.heap.size w w1) : MO w W mg M K := by
  obtain ⟨⟨pg, sg, h0, g1, g2, g3⟩, k1, k2⟩ := h
  have := hb.size
  exact ⟨⟨pg, sg, h0, by omega, by omega, g3⟩, below_next hb k1, by omega⟩
theorem um (a : Int) (n : Nat) (hn : 1 ≤ n) (hn2 : n ≤ 1000) : ∃ t : Nat, wrap64 ((IntKind.u64.wrap a).tmod n) = t ∧ t < n := by
  have h0 : 0 ≤ IntKind.u64.wrap a := by simp [IntKind.wrap, IntKind.bits, IntKind.signed]; omega
  have h1 : 0 ≤ (IntKind.u64.wrap a).tmod n := Int.tmod_nonneg _ h0
  have h2 : (IntKind.u64.wrap a).tmod n < n := Int.tmod_lt_of_pos _ (by omega)
  obtain ⟨t, ht⟩ := Int.eq_ofNat_of_zero_le h1
  refine ⟨t, ?_, by omega⟩
  rw [ht]
  unfold wrap64
  omega
set_option maxRecDepth 100000 in
theorem one_out (p q a : Int) (A : Option Addr) (m cap : Nat) (w : World) (h : arenaN p q = 0 ∨ 60 < m) :
    Calls Try.prog 3 #[.int .i64 p, .int .i64 q, .int .i64 a, .slice A m cap] w fun e w' => e = .returned (.bool true) ∧ Below w.heap.size w w' := by
  have HA := Lib.hid (awake_ok w)
  have HR := Lib.hid (fun W => arena_any W p q)
  by_cases h1 : arenaN p q = 0
  · rw [h1] at HR
    clear h h1
    go_enter Try.func3, Try.ntmps3
    go_wp2_with fail
    refine HA.out.mono ?_
    rintro e w1 ⟨rfl, hb⟩
    go_wp2_with fail
    refine (HR.out _).mono ?_
    rintro e w2 ⟨rfl, rfl⟩
    go_wp2_with fail
    go_ret
    exact ⟨rfl, hb⟩
  · have h2 : (60 : Int) < (m : Int) := by omega
    generalize arenaN p q = N at *
    have h3 : (N == 0) = false := by rw [beq_eq_false_iff_ne]; exact h1
    clear h h1
    go_enter Try.func3, Try.ntmps3
    go_wp2_with fail
    refine HA.out.mono ?_
    rintro e w1 ⟨rfl, hb⟩
    go_wp2_with fail
    refine (HR.out _).mono ?_
    rintro e w2 ⟨rfl, rfl⟩
    go_wp2_with fail
    go_ret
    exact ⟨rfl, hb⟩
set_option maxRecDepth 100000 in
set_option maxHeartbeats 4000000 in
theorem one_in (p q : Nat) (a : Int) (A : Option Addr) (m cap : Nat) (w : World) (hp1 : 1 ≤ p) (hp2 : p ≤ 64) (hq1 : 1 ≤ q) (hq2 : q ≤ 64) (ha : I64 a) (hm : m ≤ 60) (hl : MActs w A m) :
    Calls Try.prog 3 #[.int .i64 p, .int .i64 q, .int .i64 a, .slice A m cap] w fun e w' => e = .returned (.bool true) ∧ Below w.heap.size w w' := by
  have HA := Lib.hid (awake_ok w)
  have HR := Lib.hid (fun W => arena_any W p q)
  have hz : arenaN p q = 2 * (q : Int) + 2 * (p : Int) := by unfold arenaN; rw [if_neg (by omega)]
  rw [hz] at HR
  have HNW := Lib.hid (fun W => new_yes W (p := (p : Int)) (q := (q : Int)) (by omega) none 0 0)
  obtain ⟨N, hN⟩ : ∃ N, 2 * q + 2 * p = N := ⟨_, rfl⟩
  have hNi : 2 * (q : Int) + 2 * (p : Int) = (N : Int) := by omega
  rw [hNi] at HR
  have z1 : (4 : Int) ≤ (N : Int) := by omega
  have z2 : (N : Int) ≤ 256 := by omega
  have z3 : ((N : Int) == 0) = false := by rw [beq_eq_false_iff_ne]; omega
  have m1 : (m : Int) ≤ 60 := by omega
  have e1 : wrap64 (2 * (q : Int)) = 2 * q := by unfold wrap64; omega
  have e2 : wrap64 (2 * (p : Int)) = 2 * p := by unfold wrap64; omega
  have e3 : wrap64 (2 * (q : Int) + 2 * (p : Int)) = (N : Int) := by unfold wrap64; omega
  have HP := Lib.hid hl
  have HN := Lib.hid hN
  have p1 : (1 : Int) ≤ (p : Int) := by omega
  have p2 : (p : Int) ≤ 64 := by omega
  have q1 : (1 : Int) ≤ (q : Int) := by omega
  have q2 : (q : Int) ≤ 64 := by omega
  have HK := Lib.hid hNi
  clear hl hz hN
  go_enter Try.func3, Try.ntmps3
  go_wp2_with fail
  refine HA.out.mono ?_
  rintro e w1 ⟨rfl, hb⟩
  have HB := Lib.hid hb
  clear hb
  go_wp2_with fail
  refine (HR.out _).mono ?_
  rintro e w2 ⟨rfl, rfl⟩
  go_wp2_with fail
  refine (HNW.out _).mono ?_
  rintro e w3 ⟨mg, rfl, h3⟩
  have H3 := Lib.hid (h3.base HB.out)
  clear h3
  go_wp2_with fail
  obtain ⟨t, ht, htN⟩ := um a N (by omega) (by omega)
  rw [ht]
  have H0 : Hid (OneI (newMe p q none 0 0) p N t 0) := Lib.hid (HN.out ▸ one_0 (by rw [HN.out]; exact htN))
  clear ht
  go_loopw [12, 13] (fun wn i wr => ∃ (k : Nat) (M : Me), k ≤ m ∧ wn = .int .i64 (if k = 0 then -1 else 0) ∧ i = .int .i64 k ∧ MO w wr mg M (fun _ => False) ∧ OneI M p N t k) (fun _ i _ => m - (intOf i).toNat)
  case atStart => exact ⟨0, _, by omega, rfl, rfl, H3.out.less (fun b e => e.elim), H0.out⟩
  case round =>
    obtain ⟨k, M, hk, rfl, rfl, hwr, hI⟩ := hrel
    by_cases hlt : k < m
    · obtain ⟨ga, oa, ka, pa, qa, xa, ya, za, rfl, hga, hka, hpa, hqa, hxa, hya, hza, hc0, hc1, hc2, hc3, hc4, hc5⟩ := HP.out k hlt
      have d1 := (hwr.bw.cell (p := ⟨ga, oa + k * 6 + 1, none⟩) hga).trans hc1
      have hgl : ga < wr.heap.size := Nat.lt_of_lt_of_le hga hwr.bw.size
      by_cases hk0 : k = 0
      · subst hk0
        obtain ⟨tp, htp, htp2⟩ := um pa p hp1 (by omega)
        have hS := swap_at hwr (tp : Int) (t : Int) zs (s1 1)
        rw [one_b hI htp2 htN, one_is hI htp2 htN, decide_eq_true rfl] at hS
        have HT : Hid (TwoI (swapM M tp t zs (s1 1)) p N t 0) := Lib.hid (one_m hI htp2 htN)
        obtain ⟨M1, hM1⟩ : ∃ M1, swapM M tp t zs (s1 1) = M1 := ⟨_, rfl⟩
        rw [hM1] at hS HT
        unfold bool2 at hS
        have HS := Lib.hid hS
        have HB2 : Hid (∀ W, MO w W mg M1 (fun _ => False) → Calls Try.prog 11 #[.pointer (some ⟨mg, 0, none⟩), .int .i64 tp, .int .i64 0, nagg (n1 1)] W fun e W' => ∃ M2, e = .returned (.tuple #[.bool true, .bool true]) ∧ MO w W' mg M2 (fun _ => False) ∧ ThreeI M2 p N t) := Lib.hid (fun W h => by
          refine (swaps_at h (tp : Int) 0 (n1 1)).mono ?_
          rintro e W' ⟨rfl, h5, -⟩
          refine ⟨_, ?_, h5, two_m HT.out htp2⟩
          rw [two_h HT.out htp2, two_b HT.out]
          rfl)
        have HB3 : Hid (∀ M2 W, MO w W mg M2 (fun _ => False) → ThreeI M2 p N t → Calls Try.prog 12 #[.pointer (some ⟨mg, 0, none⟩), .int .i64 tp] W fun e W' => ∃ M3 A3 n3 c3, e = .returned (.tuple #[nagg ⟨1, A3, n3, c3⟩, .bool true]) ∧ MO w W' mg M3 (fun _ => False) ∧ ThreeI M3 p N t) := Lib.hid (fun M2 W h h3 => by
          refine (snap_at h (tp : Int)).mono ?_
          rintro e W' ⟨rfl, h5, -⟩
          rw [three_h h3 htp2, if_pos rfl, Int.toNat_natCast] at h5
          refine ⟨_, M2.sn.A, M2.sn.n, M2.sn.c, ?_, h5, three_m h3⟩
          rw [three_h h3 htp2, if_pos rfl]
          unfold nagg
          rw [h3.hn])
        have hfd := field47
        clear hc0 hc1 hc2 hc3 hc4 hc5 hwr hI H0 H3 hS hM1 HT
        go_wp2_with fail
        refine HS.out.mono ?_
        rintro e w4 ⟨rfl, h4, -⟩
        have H4 := Lib.hid h4
        clear h4 HS
        go_wp2_with fail
        refine (HB2.out _ H4.out).mono ?_
        rintro e w5 ⟨M2, rfl, h5, i5⟩
        have H5 := Lib.hid h5
        have I5 := Lib.hid i5
        clear h5 i5 HB2 H4
        go_wp2_with fail
        refine (HB3.out _ _ H5.out I5.out).mono ?_
        rintro e w6 ⟨M3, A3, n3, c3, rfl, h6, i6⟩
        have H6 := Lib.hid h6
        have I6 := Lib.hid i6
        clear h6 i6 HB3 H5 I5
        unfold nagg
        go_wp2_with fail
        have hB6 : Below w6.heap.size w6 (w6.alloc (.cells #[.int .i64 1, .slice none 0 0, .slice none 0 0, .slice none 0 0, .int .i64 0, .slice none 0 0, .slice A3 n3 c3] 50)) := (Below.refl _ _).alloc (Nat.le_refl _) _
        refine (mo_held (H6.out.below hB6) (t : Int)).mono ?_
        rintro e w7 ⟨rfl, hb7⟩
        have b7 := (Blk.new w6 #[.int .i64 1, .slice none 0 0, .slice none 0 0, .slice none 0 0, .int .i64 0, .slice none 0 0, .slice A3 n3 c3] 50).below hb7
        have r7 := b7.c 0 _ rfl
        have l7 := b7.l
        have H7 := Lib.hid ((H6.out.below hB6).below hb7)
        clear hB6 hb7 b7 H6
        unfold sagg
        rw [I6.out.hs]
        go_wp2_with fail
        go_roundw
        case rel => exact ⟨0 + 1, M3, by omega, rfl, rfl, H7.out, three_i I6.out 0⟩
        case measure => simp [intOf]; omega
      · rw [if_neg hk0]
        obtain ⟨tp, htp, htp2⟩ := um pa p hp1 (by omega)
        have hS := swap_at hwr (tp : Int) (t : Int) zs (s1 (1 + (k : Int)))
        rw [one_b hI htp2 htN, one_is hI htp2 htN, decide_eq_false hk0] at hS
        have HT : Hid (TwoI (swapM M tp t zs (s1 (1 + (k : Int)))) p N t k) := Lib.hid (one_m hI htp2 htN)
        obtain ⟨M1, hM1⟩ : ∃ M1, swapM M tp t zs (s1 (1 + (k : Int))) = M1 := ⟨_, rfl⟩
        rw [hM1] at hS HT
        unfold bool2 at hS
        have HS := Lib.hid hS
        have HB2 : Hid (∀ W, MO w W mg M1 (fun _ => False) → Calls Try.prog 11 #[.pointer (some ⟨mg, 0, none⟩), .int .i64 tp, .int .i64 0, nagg (n1 (1 + (k : Int)))] W fun e W' => ∃ M2, e = .returned (.tuple #[.bool false, .bool true]) ∧ MO w W' mg M2 (fun _ => False) ∧ ThreeI M2 p N t) := Lib.hid (fun W h => by
          refine (swaps_at h (tp : Int) 0 (n1 (1 + (k : Int)))).mono ?_
          rintro e W' ⟨rfl, h5, -⟩
          refine ⟨_, ?_, h5, two_m HT.out htp2⟩
          rw [two_h HT.out htp2, two_b HT.out]
          rw [decide_eq_false hk0]; rfl)
        have HB3 : Hid (∀ M2 W, MO w W mg M2 (fun _ => False) → ThreeI M2 p N t → Calls Try.prog 12 #[.pointer (some ⟨mg, 0, none⟩), .int .i64 tp] W fun e W' => ∃ M3 A3 n3 c3, e = .returned (.tuple #[nagg ⟨1, A3, n3, c3⟩, .bool true]) ∧ MO w W' mg M3 (fun _ => False) ∧ ThreeI M3 p N t) := Lib.hid (fun M2 W h h3 => by
          refine (snap_at h (tp : Int)).mono ?_
          rintro e W' ⟨rfl, h5, -⟩
          rw [three_h h3 htp2, if_pos rfl, Int.toNat_natCast] at h5
          refine ⟨_, M2.sn.A, M2.sn.n, M2.sn.c, ?_, h5, three_m h3⟩
          rw [three_h h3 htp2, if_pos rfl]
          unfold nagg
          rw [h3.hn])
        have hfd := field47
        clear hc0 hc1 hc2 hc3 hc4 hc5 hwr hI H0 H3 hS hM1 HT
        go_wp2_with fail
        refine HS.out.mono ?_
        rintro e w4 ⟨rfl, h4, -⟩
        have H4 := Lib.hid h4
        clear h4 HS
        go_wp2_with fail
        refine (HB2.out _ H4.out).mono ?_
        rintro e w5 ⟨M2, rfl, h5, i5⟩
        have H5 := Lib.hid h5
        have I5 := Lib.hid i5
        clear h5 i5 HB2 H4
        go_wp2_with fail
        refine (HB3.out _ _ H5.out I5.out).mono ?_
        rintro e w6 ⟨M3, A3, n3, c3, rfl, h6, i6⟩
        have H6 := Lib.hid h6
        have I6 := Lib.hid i6
        clear h6 i6 HB3 H5 I5
        unfold nagg
        go_wp2_with fail
        have hB6 : Below w6.heap.size w6 (w6.alloc (.cells #[.int .i64 1, .slice none 0 0, .slice none 0 0, .slice none 0 0, .int .i64 0, .slice none 0 0, .slice A3 n3 c3] 50)) := (Below.refl _ _).alloc (Nat.le_refl _) _
        refine (mo_held (H6.out.below hB6) (t : Int)).mono ?_
        rintro e w7 ⟨rfl, hb7⟩
        have b7 := (Blk.new w6 #[.int .i64 1, .slice none 0 0, .slice none 0 0, .slice none 0 0, .int .i64 0, .slice none 0 0, .slice A3 n3 c3] 50).below hb7
        have r7 := b7.c 0 _ rfl
        have l7 := b7.l
        have H7 := Lib.hid ((H6.out.below hB6).below hb7)
        clear hB6 hb7 b7 H6
        unfold sagg
        rw [I6.out.hs]
        go_wp2_with fail
        go_roundw
        case rel => exact ⟨k + 1, M3, by omega, rfl, by go_num, H7.out, three_i I6.out k⟩
        case measure => simp [intOf]; omega
    · obtain rfl : k = m := by omega
      clear hI H0 H3
      generalize (if k = 0 then (-1 : Int) else 0) = wn
      go_wp2_with fail
      go_ret
      exact ⟨rfl, hwr.bw⟩
set_option maxRecDepth 100000 in
theorem one_all (p q a : Int) (A : Option Addr) (m cap : Nat) (w : World) (ha : I64 a) {n : Nat} (d : deepOk Try.prog w (n + 4) 22 [.slice A m cap]) :
    Calls Try.prog 3 #[.int .i64 p, .int .i64 q, .int .i64 a, .slice A m cap] w fun e w' => e = .returned (.bool true) ∧ Below w.heap.size w w' := by
  by_cases h : arenaN p q = 0 ∨ 60 < m
  · exact one_out p q a A m cap w h
  · have h2 : ¬ (p < 1 ∨ 64 < p ∨ q < 1 ∨ 64 < q) := fun e => h (.inl (by unfold arenaN; rw [if_pos e]))
    obtain ⟨p, rfl⟩ := Int.eq_ofNat_of_zero_le (show 0 ≤ p by omega)
    obtain ⟨q, rfl⟩ := Int.eq_ofNat_of_zero_le (show 0 ≤ q by omega)
    exact one_in p q a A m cap w (by omega) (by omega) (by omega) (by omega) ha (by omega) (macts_of d)
#print axioms one_all
end Go.Proofs.Ythllfeogchbihac
