/- HeapPlays: the law's walk. -/
import Derived.Test.YthllfeogchbihabHeapS
import Derived.Test.YthllfeogchbihabHeapL
import Derived.Deep.RegionHeld3
namespace Go.Proofs.Ythllfeogchbihab
open Go.RowKit Go.Shelf
set_option linter.unusedSimpArgs false
set_option linter.unusedVariables false

set_option maxRecDepth 100000 in
theorem plays_out (words : Int) (A : Option Addr) (m cap : Nat) (w : World) (h : words < 0 ∨ 1024 < words ∨ 100 < m) :
    Calls Try.prog 4 #[.int .i64 words, .slice A m cap] w fun e w' => e = .returned (.bool true) ∧ Below w.heap.size w w' := by
  by_cases h1 : 100 < m
  · have h2 : (100 : Int) < (m : Int) := by omega
    clear h
    go_enter Try.func4, Try.ntmps4
    go_wp2_with fail
    go_ret
    exact ⟨rfl, Below.refl _ _⟩
  · have h2 : (m : Int) ≤ 100 := by omega
    have H1 := Lib.hid (new_no words w (by omega))
    have H2 := Lib.hid (rnew_no words w (by omega))
    clear h
    go_enter Try.func4, Try.ntmps4
    go_wp2_with fail
    refine H1.out.mono ?_
    rintro e w1 ⟨rfl, rfl⟩
    go_wp2_with fail
    refine H2.out.mono ?_
    rintro e w1 ⟨rfl, rfl⟩
    go_wp2_with fail
    go_ret
    exact ⟨rfl, Below.refl _ _⟩

theorem rp_start {w W1 W2 : World} {gh gw n rh : Nat} {v : Value} {gs : Nat → Nat} (h1 : HO w W1 gh gw n []) (h2 : Below W1.heap.size W1 W2) (h3 : W1.heap.size ≤ rh) (h4 : RefAt W2 W1.heap.size rh n v gs [[]]) (h5 : ∀ b, FW v gs 1 b → W1.heap.size ≤ b) :
    RP w W2 gh gw rh n [] [] (fun _ _ => False) := by
  obtain ⟨⟨base, A, cap, h0⟩, k1, k2, k3⟩ := h1
  have hs := k1.size
  refine ⟨⟨base, A, cap, v, gs, h0.below h2, ?_, fun b hb e => ?_, fun e => ?_, fun _ _ e => e.elim⟩, below_next k1 h2, k2, k3, by omega⟩
  · exact { h4 with wa := { h4.wa with row := h4.wa.row.mono hs, lo := fun k hk => Nat.le_trans hs (h4.wa.lo k hk) } }
  · have := h5 b hb; have := h0.foot b e; omega
  · have := h0.foot rh e; omega

set_option maxRecDepth 100000 in
set_option maxHeartbeats 4000000 in
theorem plays_in (n : Nat) (A : Option Addr) (m cap : Nat) (w : World) (hn : n ≤ 1024) (hm : m ≤ 100) (hp : ActsAt w A m) :
    Calls Try.prog 4 #[.int .i64 n, .slice A m cap] w fun e w' => e = .returned (.bool true) ∧ Below w.heap.size w w' := by
  have n1 : (n : Int) ≤ 1024 := by omega
  have n0 : (0 : Int) ≤ (n : Int) := by omega
  have m1 : (m : Int) ≤ 100 := by omega
  have HP := Lib.hid hp
  clear hp
  go_enter Try.func4, Try.ntmps4
  go_wp2_with fail
  refine (ho_new n w hn).mono ?_
  rintro e w1 ⟨gh, gw, rfl, h1⟩
  have H1 := Lib.hid h1
  clear h1
  go_wp2_with fail
  refine (rnew_yes n w1 hn).mono ?_
  rintro e w2 ⟨rh, v, gs, rfl, h2, h3, h4, h5⟩
  have HH := Lib.hid (rp_start H1.out h2 h3 h4 h5)
  clear H1 h2 h3 h4 h5 v gs
  go_wp2_with fail
  go_loopw [9] (fun i wr => ∃ (k : Nat) (arrs : List (List Int)), k ≤ m ∧ arrs.length ≤ k ∧ i = .int .i64 k ∧ RP w wr gh gw rh n arrs arrs (fun _ _ => False)) (fun i _ => m - (intOf i).toNat)
  case atStart => exact ⟨0, [], by omega, by simp, rfl, HH.out⟩
  case round =>
    obtain ⟨k, arrs, hk, hak, rfl, hwr⟩ := hrel
    by_cases hlt : k < m
    · obtain ⟨ga, oa, ka, ra, xa, va, rfl, hga, hka, hra, hxa, hva, hc0, hc1, hc2, hc3⟩ := HP.out k hlt
      have d0 := (hwr.bw.cell (p := ⟨ga, oa + k * 4, none⟩) hga).trans hc0
      have d1 := (hwr.bw.cell (p := ⟨ga, oa + k * 4 + 1, none⟩) hga).trans hc1
      have d2 := (hwr.bw.cell (p := ⟨ga, oa + k * 4 + 2, none⟩) hga).trans hc2
      have d3 := (hwr.bw.cell (p := ⟨ga, oa + k * 4 + 3, none⟩) hga).trans hc3
      have HWR := Lib.hid hwr
      clear hc0 hc1 hc2 hc3 hwr HH
      go_upto_region 11 with fail
      have hrp := HWR.out.alloc #[.int .u8 ka, .int .i64 ra, .int .i64 xa, .int .i64 va] 23
      obtain ⟨W0, hW0⟩ : ∃ W0, wr.alloc (.cells #[.int .u8 ka, .int .i64 ra, .int .i64 xa, .int .i64 va] 23) = W0 := ⟨_, rfl⟩
      obtain ⟨ba, hba⟩ : ∃ ba, wr.heap.size = ba := ⟨_, rfl⟩
      rw [hW0, hba] at hrp
      rw [hW0, hba]
      clear HWR hW0 hba d0 d1 d2 d3
      obtain ⟨K, hK⟩ : ∃ K : Nat → List Value → Prop, (fun b vs => b = ba ∧ vs = (#[Value.int .u8 ka, .int .i64 ra, .int .i64 xa, .int .i64 va] : Array Value).toList) = K := ⟨_, rfl⟩
      rw [hK] at hrp
      have HK : Hid (∀ (W : World) (hs rs : List (List Int)), RP w W gh gw rh n hs rs K → Blk W ba [.int .u8 ka, .int .i64 ra, .int .i64 xa, .int .i64 va]) := Lib.hid (fun W hs rs h => h.kept (by rw [← hK]; exact ⟨rfl, rfl⟩))
      clear hK
      have a0 : W0.cell? ⟨ba, 0, none⟩ = some (.int .u8 ka) := (HK.out _ _ _ hrp).c 0 _ rfl
      have a1 : W0.cell? ⟨ba, 1, none⟩ = some (.int .i64 ra) := (HK.out _ _ _ hrp).c 1 _ rfl
      have a2 : W0.cell? ⟨ba, 2, none⟩ = some (.int .i64 xa) := (HK.out _ _ _ hrp).c 2 _ rfl
      have a3 : W0.cell? ⟨ba, 3, none⟩ = some (.int .i64 va) := (HK.out _ _ _ hrp).c 3 _ rfl
      have HR := Lib.hid hrp
      clear hrp
      have hcase : ka % 4 = 0 ∨ ka % 4 = 1 ∨ ka % 4 = 2 ∨ ka % 4 = 3 := by omega
      rcases hcase with hc | hc | hc | hc
      · have t0 : (ka % 4 == 0) = true := beq_iff_eq.2 hc
        clear hc
        have HM := Lib.hid (rp_hmake HR.out va (by omega))
        go_wp2_with fail
        refine HM.out.mono ?_
        rintro e w3 ⟨rfl, h3⟩
        have a3 : w3.cell? ⟨ba, 3, none⟩ = some (.int .i64 va) := (HK.out _ _ _ h3).c 3 _ rfl
        have HM2 := Lib.hid (rp_rmake h3 va (by omega))
        clear HM HR h3
        have hln : (mkArrs n arrs va).length ≤ k + 1 := by
          unfold mkArrs
          split
          · simp; omega
          · omega
        generalize mkRef n arrs va = R1 at *
        generalize mkErr n arrs va = X1 at *
        generalize mkArrs n arrs va = arrs2 at *
        go_wp2_with fail
        refine HM2.out.mono ?_
        rintro e w4 ⟨rfl, h4⟩
        have HU := Lib.hid (rp_hused h4)
        clear HM2 h4
        go_wp2_with fail
        refine HU.out.mono ?_
        rintro e w5 ⟨rfl, h5⟩
        have HU2 := Lib.hid (rp_rused h5)
        have H5 := Lib.hid h5
        clear HU h5
        generalize arrs2.flatten.length = U at *
        go_wp2_with fail
        refine HU2.out.mono ?_
        rintro e w6 ⟨rfl, rfl⟩
        go_wp2_with fail
        go_roundw
        case rel => exact ⟨k + 1, arrs2, by omega, hln, by go_num, H5.out.drop⟩
        case measure => simp [intOf]; omega
      · have t0 : (ka % 4 == 0) = false := by rw [beq_eq_false_iff_ne]; omega
        have t1 : (ka % 4 == 1) = true := beq_iff_eq.2 hc
        clear hc
        have hln : arrs.length ≤ k + 1 := by omega
        have hln2 : (ansP arrs ra xa va).length ≤ k + 1 := by rw [ansP_length]; omega
        have HD := Lib.hid HR.out.drew
        have b1 : W0.drew.cell? ⟨ba, 1, none⟩ = some (.int .i64 ra) := (HK.out _ _ _ HD.out).c 1 _ rfl
        have b2 : W0.drew.cell? ⟨ba, 2, none⟩ = some (.int .i64 xa) := (HK.out _ _ _ HD.out).c 2 _ rfl
        have b3 : W0.drew.cell? ⟨ba, 3, none⟩ = some (.int .i64 va) := (HK.out _ _ _ HD.out).c 3 _ rfl
        clear HR b1 b2 b3
        go_wp2_with fail
        go_region_held3 (fun w' => w'.cell? ⟨ba, 1, none⟩ = some (.int .i64 ra) ∧ w'.cell? ⟨ba, 2, none⟩ = some (.int .i64 xa) ∧ w'.cell? ⟨ba, 3, none⟩ = some (.int .i64 va))
          ((first | (with_reducible exact hkeep) | (with_reducible exact hkeep2) | (refine ⟨?_, ?_, ?_⟩ <;> simp [*]) | fail))
          (first
            | (go_at_call 10; refine (rp_hput HD.out ra xa va).mono ?_; rintro e w4 ⟨rfl, h4⟩
               have hkeep : w4.cell? ⟨ba, 1, none⟩ = some (.int .i64 ra) ∧ w4.cell? ⟨ba, 2, none⟩ = some (.int .i64 xa) ∧ w4.cell? ⟨ba, 3, none⟩ = some (.int .i64 va) := ⟨(HK.out _ _ _ h4).c 1 _ rfl, (HK.out _ _ _ h4).c 2 _ rfl, (HK.out _ _ _ h4).c 3 _ rfl⟩
               have H4 := Lib.hid h4
               clear h4)
            | (go_at_call 15; refine (rp_rput H4.out ra xa va).mono ?_; rintro e w5 ⟨rfl, h5⟩
               have hkeep2 : w5.cell? ⟨ba, 1, none⟩ = some (.int .i64 ra) ∧ w5.cell? ⟨ba, 2, none⟩ = some (.int .i64 xa) ∧ w5.cell? ⟨ba, 3, none⟩ = some (.int .i64 va) := ⟨(HK.out _ _ _ h5).c 1 _ rfl, (HK.out _ _ _ h5).c 2 _ rfl, (HK.out _ _ _ h5).c 3 _ rfl⟩
               have H5 := Lib.hid h5
               clear h5)
            | fail)
        have h4 := H5.out
        clear H4 H5 HD hkeep hkeep2 hln
        generalize ansP arrs ra xa va = arrs2 at *
        generalize ansB arrs ra xa = B1 at *
        have HU := Lib.hid (rp_hused h4)
        clear h4
        go_wp2_with fail
        refine HU.out.mono ?_
        rintro e w6 ⟨rfl, h6⟩
        have HU2 := Lib.hid (rp_rused h6)
        have H6 := Lib.hid h6
        clear HU h6
        generalize arrs2.flatten.length = U at *
        go_wp2_with fail
        refine HU2.out.mono ?_
        rintro e w7 ⟨rfl, rfl⟩
        go_wp2_with fail
        go_roundw
        case rel => exact ⟨k + 1, arrs2, by omega, hln2, by go_num, H6.out.drop⟩
        case measure => simp [intOf]; omega
      · have t0 : (ka % 4 == 0) = false := by rw [beq_eq_false_iff_ne]; omega
        have t1 : (ka % 4 == 1) = false := by rw [beq_eq_false_iff_ne]; omega
        have t2 : (ka % 4 == 2) = true := beq_iff_eq.2 hc
        clear hc
        have hln : arrs.length ≤ k + 1 := by omega
        have HM := Lib.hid (rp_hat HR.out ra xa)
        clear HR
        go_wp2_with fail
        refine HM.out.mono ?_
        rintro e w3 ⟨rfl, h3⟩
        have a1 : w3.cell? ⟨ba, 1, none⟩ = some (.int .i64 ra) := (HK.out _ _ _ h3).c 1 _ rfl
        have a2 : w3.cell? ⟨ba, 2, none⟩ = some (.int .i64 xa) := (HK.out _ _ _ h3).c 2 _ rfl
        have HM2 := Lib.hid (rp_rat h3 ra xa)
        have H3 := Lib.hid h3
        clear HM h3
        generalize ansV arrs ra xa = R1 at *
        generalize ansB arrs ra xa = X1 at *
        go_wp2_with fail
        refine HM2.out.mono ?_
        rintro e w4 ⟨rfl, rfl⟩
        have h4 := H3.out
        clear HM2 H3 a1 a2
        have HU := Lib.hid (rp_hused h4)
        clear h4
        go_wp2_with fail
        refine HU.out.mono ?_
        rintro e w5 ⟨rfl, h5⟩
        have HU2 := Lib.hid (rp_rused h5)
        have H5 := Lib.hid h5
        clear HU h5
        generalize arrs.flatten.length = U at *
        go_wp2_with fail
        refine HU2.out.mono ?_
        rintro e w6 ⟨rfl, rfl⟩
        go_wp2_with fail
        go_roundw
        case rel => exact ⟨k + 1, arrs, by omega, hln, by go_num, H5.out.drop⟩
        case measure => simp [intOf]; omega
      · have t0 : (ka % 4 == 0) = false := by rw [beq_eq_false_iff_ne]; omega
        have t1 : (ka % 4 == 1) = false := by rw [beq_eq_false_iff_ne]; omega
        have t2 : (ka % 4 == 2) = false := by rw [beq_eq_false_iff_ne]; omega
        clear hc
        have hln : arrs.length ≤ k + 1 := by omega
        have HM := Lib.hid (rp_hlen HR.out ra)
        clear HR
        go_wp2_with fail
        refine HM.out.mono ?_
        rintro e w3 ⟨rfl, h3⟩
        have a1 : w3.cell? ⟨ba, 1, none⟩ = some (.int .i64 ra) := (HK.out _ _ _ h3).c 1 _ rfl
        have HM2 := Lib.hid (rp_rlen h3 ra)
        have H3 := Lib.hid h3
        clear HM h3
        generalize lenV arrs ra = R1 at *
        generalize lenB arrs ra = X1 at *
        go_wp2_with fail
        refine HM2.out.mono ?_
        rintro e w4 ⟨rfl, rfl⟩
        have h4 := H3.out
        clear HM2 H3 a1
        have HU := Lib.hid (rp_hused h4)
        clear h4
        go_wp2_with fail
        refine HU.out.mono ?_
        rintro e w5 ⟨rfl, h5⟩
        have HU2 := Lib.hid (rp_rused h5)
        have H5 := Lib.hid h5
        clear HU h5
        generalize arrs.flatten.length = U at *
        go_wp2_with fail
        refine HU2.out.mono ?_
        rintro e w6 ⟨rfl, rfl⟩
        go_wp2_with fail
        go_roundw
        case rel => exact ⟨k + 1, arrs, by omega, hln, by go_num, H5.out.drop⟩
        case measure => simp [intOf]; omega
    · obtain rfl : k = m := by omega
      go_wp2_with fail
      go_ret
      exact ⟨rfl, hwr.bw⟩

theorem plays_all (words : Int) (A : Option Addr) (m cap : Nat) (w : World) {n : Nat} (d : deepOk Try.prog w (n + 4) 39 [.slice A m cap]) :
    Calls Try.prog 4 #[.int .i64 words, .slice A m cap] w fun e w' => e = .returned (.bool true) ∧ Below w.heap.size w w' := by
  by_cases h : words < 0 ∨ 1024 < words ∨ 100 < m
  · exact plays_out words A m cap w h
  · obtain ⟨n, rfl⟩ := Int.eq_ofNat_of_zero_le (show 0 ≤ words by omega)
    exact plays_in n A m cap w (by omega) (by omega) (actsAt_of d)
#print axioms plays_all

end Go.Proofs.Ythllfeogchbihab
