/- HeapBounded's walk. -/
import Derived.Test.YthllfeogchbihabHeapH
import Derived.Test.YthllfeogchbihabHeapD
namespace Go.Proofs.Ythllfeogchbihab
open Go.RowKit Go.Shelf
set_option linter.unusedSimpArgs false
set_option linter.unusedVariables false

/-- A slice of numbers in memory. -/
def IntsAt (w : World) (A : Option Addr) (m : Nat) : Prop := ∀ i, i < m → ∃ g o z, A = some ⟨g, o, none⟩ ∧ g < w.heap.size ∧ -9223372036854775808 ≤ z ∧ z ≤ 9223372036854775807 ∧ w.cell? ⟨g, o + i, none⟩ = some (.int .i64 z)
theorem intsAt_of {w : World} {A : Option Addr} {m cap n : Nat} (h : deepOk Try.prog w (n + 2) 25 [.slice A m cap]) : IntsAt w A m := by
  obtain ⟨A', m', cap', e, -, -, h3⟩ := deepOk_slice Try.underlying25 h
  injection e with e
  injection e with e1 e2 e3
  subst e1 e2 e3
  intro i hi
  obtain ⟨g, o, es, e1, hg, hl, hc, hd⟩ := h3 (by rw [cells2]; decide) i hi
  rw [cells2] at hl hc
  obtain ⟨z, rfl, hw⟩ := deepOk_int Try.underlying2 hd
  have := wf_i64' hw
  exact ⟨g, o, z, e1, hg, this.1, this.2, by simpa using hc 0 (by omega)⟩

section
variable {w W : World} {gh gw room : Nat} {arrs : List (List Int)}
theorem len_is (h : HO w W gh gw room arrs) : Calls Try.prog 9 #[.pointer (some ⟨gh, 0, none⟩), .int .i64 arrs.length] W fun e W' => ∃ x, e = .returned (.tuple #[.int .i64 x, .bool true]) ∧ HO w W' gh gw room arrs := by
  refine (ho_len h _).mono ?_
  rintro e W' ⟨rfl, hb⟩
  rw [decide_eq_true (show (0 : Int) ≤ arrs.length ∧ (arrs.length : Int) ≤ arrs.length by omega)]
  exact ⟨_, rfl, hb⟩
theorem len_more (h : HO w W gh gw room arrs) : Calls Try.prog 9 #[.pointer (some ⟨gh, 0, none⟩), .int .i64 ((arrs.length : Int) + 1)] W fun e W' => ∃ x, e = .returned (.tuple #[.int .i64 x, .bool false]) ∧ HO w W' gh gw room arrs := by
  refine (ho_len h _).mono ?_
  rintro e W' ⟨rfl, hb⟩
  rw [decide_eq_false (show ¬ ((0 : Int) ≤ (arrs.length : Int) + 1 ∧ (arrs.length : Int) + 1 ≤ arrs.length) by omega)]
  exact ⟨_, rfl, hb⟩
theorem used_le (h : HO w W gh gw room arrs) : arrs.flatten.length ≤ room ∧ room ≤ 1024 := by
  obtain ⟨base, A, cap, h0⟩ := h.ex
  exact ⟨h0.sm, h0.rm⟩
theorem make_no (h : HO w W gh gw room arrs) (n : Int) (hl : arrs.length < 5000) (hn : fitsB room arrs n = false) :
    Calls Try.prog 7 #[.pointer (some ⟨gh, 0, none⟩), .int .i64 n] W fun e W' => (∃ x, e = .returned (.tuple #[.int .i64 0, .int .i64 x]) ∧ x ≠ 0) ∧ HO w W' gh gw room arrs := by
  refine (ho_make h n hl).mono ?_
  rintro e W' ⟨rfl, hb⟩
  unfold mkArrs at hb
  rw [hn] at hb
  refine ⟨⟨mkErr room arrs n, by simp [mkRef, hn], fun e => ?_⟩, hb⟩
  rw [mkErr_zero, hn] at e
  cases e
theorem make_yes (h : HO w W gh gw room arrs) (n : Nat) (hl : arrs.length < 5000) (h1 : n ≤ 1024) (h2 : arrs.flatten.length + n ≤ room) :
    Calls Try.prog 7 #[.pointer (some ⟨gh, 0, none⟩), .int .i64 n] W fun e W' => e = .returned (.tuple #[.int .i64 (arrs.length + 1), .int .i64 0]) ∧ HO w W' gh gw room (arrs ++ [List.replicate n 0]) := by
  have hn : fitsB room arrs (n : Int) = true := decide_eq_true (by omega)
  refine (ho_make h n hl).mono ?_
  rintro e W' ⟨rfl, hb⟩
  unfold mkArrs at hb
  rw [hn] at hb
  exact ⟨by simp [mkRef, hn, (mkErr_zero room arrs n).2 hn], hb⟩
end

theorem bounded_out (words : Int) (A : Option Addr) (m cap : Nat) (w : World) (h : words < 0 ∨ 1024 < words ∨ 60 < m) :
    Calls Try.prog 6 #[.int .i64 words, .slice A m cap] w fun e w' => e = .returned (.bool true) ∧ Below w.heap.size w w' := by
  have h3 : 60 < m → (60 : Int) < (m : Int) := by omega
  by_cases h1 : words < 0
  · clear h h3
    go_enter Try.func6, Try.ntmps6
    go_wp2_with fail
    refine (awake_ok _).mono ?_
    rintro e w1 ⟨rfl, hb⟩
    go_wp2_with fail
    go_ret
    exact ⟨rfl, hb⟩
  by_cases h2 : 1024 < words
  · clear h h3
    go_enter Try.func6, Try.ntmps6
    go_wp2_with fail
    refine (awake_ok _).mono ?_
    rintro e w1 ⟨rfl, hb⟩
    go_wp2_with fail
    go_ret
    exact ⟨rfl, hb⟩
  have h4 := h3 (by omega)
  clear h h3
  go_enter Try.func6, Try.ntmps6
  go_wp2_with fail
  refine (awake_ok _).mono ?_
  rintro e w1 ⟨rfl, hb⟩
  go_wp2_with fail
  go_ret
  exact ⟨rfl, hb⟩

set_option maxRecDepth 100000 in
set_option maxHeartbeats 4000000 in
theorem bounded_in (n : Nat) (A : Option Addr) (m cap : Nat) (w : World) (hn : n ≤ 1024) (hm : m ≤ 60) (hp : IntsAt w A m) :
    Calls Try.prog 6 #[.int .i64 n, .slice A m cap] w fun e w' => e = .returned (.bool true) ∧ Below w.heap.size w w' := by
  have n1 : (n : Int) ≤ 1024 := by omega
  have n0 : (0 : Int) ≤ (n : Int) := by omega
  have m1 : (m : Int) ≤ 60 := by omega
  have HP := Lib.hid hp
  clear hp
  go_enter Try.func6, Try.ntmps6
  go_wp2_with fail
  refine (awake_ok _).mono ?_
  rintro e w1 ⟨rfl, hb⟩
  have HB := Lib.hid hb
  clear hb
  go_wp2_with fail
  refine (ho_new n w1 hn).mono ?_
  rintro e w2 ⟨gh, gw, rfl, h2⟩
  have hho : HO w w2 gh gw n [] := ⟨h2.ex, HB.out.trans (h2.bw.mono HB.out.size), Nat.le_trans HB.out.size h2.g1, Nat.le_trans HB.out.size h2.g2⟩
  have HH := Lib.hid hho
  clear h2 hho HB
  go_wp2_with fail
  go_loopw [7, 8, 9] (fun us mn i wr => ∃ (k : Nat) (arrs : List (List Int)), k ≤ m ∧ arrs.length ≤ k ∧ us = .int .i64 arrs.flatten.length ∧ mn = .int .i64 arrs.length ∧ i = .int .i64 k ∧ HO w wr gh gw n arrs) (fun _ _ i _ => m - (intOf i).toNat)
  case atStart => exact ⟨0, [], by omega, by simp, rfl, rfl, rfl, HH.out⟩
  case round =>
    obtain ⟨k, arrs, hk, hak, rfl, rfl, rfl, hwr⟩ := hrel
    have hul := used_le hwr
    by_cases hlt : k < m
    · obtain ⟨ga, oa, z, rfl, hga, z0, z1, hcz⟩ := HP.out k hlt
      have hcw : wr.cell? ⟨ga, oa + k, none⟩ = some (.int .i64 z) := (hwr.bw.cell (p := ⟨ga, oa + k, none⟩) hga).trans hcz
      have HWR := Lib.hid hwr
      clear hwr
      obtain ⟨L, hL⟩ : ∃ L, arrs.flatten.length = L := ⟨_, rfl⟩
      obtain ⟨q, hq⟩ : ∃ q, arrs.length = q := ⟨_, rfl⟩
      have FF : Hid (fitsB n arrs z = decide (0 ≤ z ∧ z ≤ 1024 ∧ (L : Int) + z ≤ n)) := Lib.hid (by unfold fitsB; rw [hL])
      have HL := Lib.hid hL
      have HQ := Lib.hid hq
      rw [hL] at hul
      rw [hq] at hak
      rw [hL, hq]
      clear hL hq
      have b1 : (L : Int) ≤ 1024 := by omega
      have b2 : (q : Int) ≤ 60 := by omega
      have b3 : (k : Int) < 60 := by omega
      by_cases f1 : z < 0
      · have hf : fitsB n arrs z = false := FF.out.trans (decide_eq_false (by omega))
        have MK := Lib.hid (make_no HWR.out z (by rw [HQ.out]; omega) hf)
        clear hf FF HWR
        go_wp2_with fail
        refine MK.out.mono ?_
        clear MK
        rintro e w5 ⟨⟨x5, rfl, hx5⟩, h5⟩
        have hc5 : w5.cell? ⟨ga, oa + k, none⟩ = some (.int .i64 z) := (h5.bw.cell (p := ⟨ga, oa + k, none⟩) hga).trans hcz
        have hx5' : (x5 == 0) = false := by rw [beq_eq_false_iff_ne]; exact hx5
        have H5 := Lib.hid h5
        clear h5
        go_wp2_with fail
        refine (HQ.out ▸ len_is H5.out).mono ?_
        clear H5
        rintro e w6 ⟨x6, rfl, h6⟩
        have H6 := Lib.hid h6
        clear h6
        go_wp2_with fail
        refine (HQ.out ▸ len_more H6.out).mono ?_
        clear H6
        rintro e w7 ⟨x7, rfl, h7⟩
        have H7 := Lib.hid h7
        clear h7
        go_wp2_with fail
        refine (HL.out ▸ ho_used H7.out).mono ?_
        clear H7
        rintro e w8 ⟨rfl, h8⟩
        have H8 := Lib.hid h8
        clear h8
        go_wp2_with fail
        refine ⟨⟨k + 1, arrs, by omega, by rw [HQ.out]; omega, by rw [HL.out], by rw [HQ.out], by go_num, H8.out⟩, by simp [intOf]; omega⟩
      by_cases f2 : 1024 < z
      · have hf : fitsB n arrs z = false := FF.out.trans (decide_eq_false (by omega))
        have MK := Lib.hid (make_no HWR.out z (by rw [HQ.out]; omega) hf)
        clear hf FF HWR
        go_wp2_with fail
        refine MK.out.mono ?_
        clear MK
        rintro e w5 ⟨⟨x5, rfl, hx5⟩, h5⟩
        have hc5 : w5.cell? ⟨ga, oa + k, none⟩ = some (.int .i64 z) := (h5.bw.cell (p := ⟨ga, oa + k, none⟩) hga).trans hcz
        have hx5' : (x5 == 0) = false := by rw [beq_eq_false_iff_ne]; exact hx5
        have H5 := Lib.hid h5
        clear h5
        go_wp2_with fail
        refine (HQ.out ▸ len_is H5.out).mono ?_
        clear H5
        rintro e w6 ⟨x6, rfl, h6⟩
        have H6 := Lib.hid h6
        clear h6
        go_wp2_with fail
        refine (HQ.out ▸ len_more H6.out).mono ?_
        clear H6
        rintro e w7 ⟨x7, rfl, h7⟩
        have H7 := Lib.hid h7
        clear h7
        go_wp2_with fail
        refine (HL.out ▸ ho_used H7.out).mono ?_
        clear H7
        rintro e w8 ⟨rfl, h8⟩
        have H8 := Lib.hid h8
        clear h8
        go_wp2_with fail
        refine ⟨⟨k + 1, arrs, by omega, by rw [HQ.out]; omega, by rw [HL.out], by rw [HQ.out], by go_num, H8.out⟩, by simp [intOf]; omega⟩
      by_cases f3 : (n : Int) - (L : Int) < z
      · have hf : fitsB n arrs z = false := FF.out.trans (decide_eq_false (by omega))
        have MK := Lib.hid (make_no HWR.out z (by rw [HQ.out]; omega) hf)
        clear hf FF HWR
        go_wp2_with fail
        refine MK.out.mono ?_
        clear MK
        rintro e w5 ⟨⟨x5, rfl, hx5⟩, h5⟩
        have hc5 : w5.cell? ⟨ga, oa + k, none⟩ = some (.int .i64 z) := (h5.bw.cell (p := ⟨ga, oa + k, none⟩) hga).trans hcz
        have hx5' : (x5 == 0) = false := by rw [beq_eq_false_iff_ne]; exact hx5
        have H5 := Lib.hid h5
        clear h5
        go_wp2_with fail
        refine (HQ.out ▸ len_is H5.out).mono ?_
        clear H5
        rintro e w6 ⟨x6, rfl, h6⟩
        have H6 := Lib.hid h6
        clear h6
        go_wp2_with fail
        refine (HQ.out ▸ len_more H6.out).mono ?_
        clear H6
        rintro e w7 ⟨x7, rfl, h7⟩
        have H7 := Lib.hid h7
        clear h7
        go_wp2_with fail
        refine (HL.out ▸ ho_used H7.out).mono ?_
        clear H7
        rintro e w8 ⟨rfl, h8⟩
        have H8 := Lib.hid h8
        clear h8
        go_wp2_with fail
        refine ⟨⟨k + 1, arrs, by omega, by rw [HQ.out]; omega, by rw [HL.out], by rw [HQ.out], by go_num, H8.out⟩, by simp [intOf]; omega⟩
      · obtain ⟨y, rfl⟩ := Int.eq_ofNat_of_zero_le (show 0 ≤ z by omega)
        have MK := Lib.hid (make_yes HWR.out y (by rw [HQ.out]; omega) (by omega) (by rw [HL.out]; omega))
        rw [HQ.out] at MK
        have hL2 : (arrs ++ [List.replicate y 0]).flatten.length = L + y := by rw [List.flatten_append, List.length_append, HL.out]; simp
        have hQ2 : (arrs ++ [List.replicate y 0]).length = q + 1 := by rw [List.length_append, HQ.out]; rfl
        generalize arrs ++ [List.replicate y 0] = arrs2 at MK hL2 hQ2
        have HL2 := Lib.hid hL2
        have HQ2 := Lib.hid hQ2
        clear FF HWR HL HQ hL2 hQ2 arrs
        have f4 : (0 : Int) ≤ (y : Int) := by omega
        have f5 : (y : Int) ≤ 1024 := by omega
        have f6 : (y : Int) ≤ (n : Int) - (L : Int) := by omega
        go_wp2_with fail
        refine MK.out.mono ?_
        clear MK
        rintro e w5 ⟨rfl, h5⟩
        have hc5 : w5.cell? ⟨ga, oa + k, none⟩ = some (.int .i64 y) := (h5.bw.cell (p := ⟨ga, oa + k, none⟩) hga).trans hcz
        have H5 := Lib.hid h5
        clear h5
        go_wp2_with fail
        have E1 := len_is H5.out
        rw [HQ2.out] at E1
        have e2 : (((q + 1 : Nat)) : Int) = (q : Int) + 1 := by omega
        rw [e2] at E1
        refine E1.mono ?_
        clear H5 E1
        rintro e w6 ⟨x6, rfl, h6⟩
        have H6 := Lib.hid h6
        clear h6
        go_wp2_with fail
        have E1 := len_more H6.out
        rw [HQ2.out, e2] at E1
        refine E1.mono ?_
        clear H6 E1
        rintro e w7 ⟨x7, rfl, h7⟩
        have H7 := Lib.hid h7
        clear h7
        go_wp2_with fail
        have E1 := ho_used H7.out
        rw [HL2.out] at E1
        have e3 : (((L + y : Nat)) : Int) = (L : Int) + (y : Int) := by omega
        rw [e3] at E1
        refine E1.mono ?_
        clear H7 E1
        rintro e w8 ⟨rfl, h8⟩
        have H8 := Lib.hid h8
        clear h8
        go_wp2_with fail
        refine ⟨⟨k + 1, arrs2, by omega, by rw [HQ2.out]; omega, by rw [HL2.out, e3], by rw [HQ2.out, e2], by go_num, H8.out⟩, by simp [intOf]; omega⟩
    · obtain rfl : k = m := by omega
      go_wp2_with fail
      go_ret
      exact ⟨rfl, hwr.bw⟩

theorem bounded_all (words : Int) (A : Option Addr) (m cap : Nat) (w : World) (hp : deepOk Try.prog w 8 25 [.slice A m cap]) :
    Calls Try.prog 6 #[.int .i64 words, .slice A m cap] w fun e w' => e = .returned (.bool true) ∧ Below w.heap.size w w' := by
  by_cases h : words < 0 ∨ 1024 < words ∨ 60 < m
  · exact bounded_out words A m cap w h
  · obtain ⟨k, rfl⟩ := Int.eq_ofNat_of_zero_le (show 0 ≤ words by omega)
    exact bounded_in k A m cap w (by omega) (by omega) (intsAt_of hp)
#print axioms bounded_all

end Go.Proofs.Ythllfeogchbihab
