/- Parts of the walk, joined. -/
import Derived.Test.YtkhgpeejmbfmjaaPart10
import Derived.Deep.RegionHeld3
import Derived.Deep.DeepCutAuto
/- The run in memory: do: an operation of two numbers. -/
namespace Go.Proofs.Ytkhgpeejmbfmjaa
open Go.RowKit
set_option linter.unusedSimpArgs false
set_option linter.unusedVariables false
set_option maxRecDepth 100000
section
variable {w0 W : World} {X : Sx} {rb : Nat} {fgs : List Nat} {c : Nat} {s : Mc} {K : Nat → Prop} {fg : Nat}

set_option maxHeartbeats 4000000 in
theorem do_11 (h : RunAt w0 W X rb fgs c s K) (hf : Topf fgs fg) (a b p : Int) (ha : I64 a) (hp : I64 p) (hc : c < 25000) : Calls Try.prog 25 #[.pointer (some ⟨rb, 0, none⟩), .pointer (some ⟨fg, 0, none⟩), .agg #[.int .u8 11, .int .i64 a, .int .i64 b], .int .i64 p] W fun e W' => e = .returned (.int .i64 (s.do_ X.m X.l 11 a p).1) ∧ Left w0 W X rb c (s.do_ X.m X.l 11 a p).2 K W' := by
  obtain ⟨W1, t6, K1, hW1, ht6, R1, k6, B6, -⟩ := first_block h #[.int .u8 11, .int .i64 a, .int .i64 b] 46
  have HF := Lib.hid (And.intro hf hc)
  have HE := Lib.hid (And.intro hW1 ht6)
  have b0 := B6.c 0 _ rfl
  have b1 := B6.c 1 _ rfl
  have b2 := B6.c 2 _ rfl
  have lb := B6.l
  show Calls Try.prog 25 _ W fun e W' => e = .returned (.int .i64 ((binRes (binV 11 s.number.2.number.1 s.number.1).1 (binV 11 s.number.2.number.1 s.number.1).2 s.number.2.number.2).1)) ∧ Left w0 W X rb c ((binRes (binV 11 s.number.2.number.1 s.number.1).1 (binV 11 s.number.2.number.1 s.number.1).2 s.number.2.number.2).2) K W'
  have HP := Lib.hid (number_at R1.r hf)
  have HO := Lib.hid (num_ok R1.r hf)
  have HR := Lib.hid (And.intro R1 (And.intro k6 B6))
  generalize s.number = q at *
  obtain ⟨y, s1⟩ := q
  dsimp only at *
  obtain ⟨⟨x, s2⟩, hp2⟩ : ∃ p, s1.number = p := ⟨_, rfl⟩
  rw [hp2]
  dsimp only
  have HP2 := Lib.hid hp2
  obtain ⟨⟨n, tr⟩, hbv⟩ : ∃ r, binV 11 x y = r := ⟨_, rfl⟩
  rw [hbv]
  have HBV := Lib.hid hbv
  dsimp only
  have HBS : Hid (I64 x → I64 y → ∀ w, Calls Try.prog 56 #[.int .i64 x, .int .i64 y] w fun e W' => e = .returned (.tuple #[.int .i64 n, .int .i64 tr]) ∧ w = W') := Lib.hid (fun hx hy w => (bin_11 x y w hx hy).mono (fun e w' h => ⟨by rw [h.1, hbv]; rfl, h.2.symm⟩))
  have hix := ix_11
  have hfld := field92
  clear h hf ha hp hc R1 k6 B6 hW1 ht6 hp2 hbv
  go_enter Try.func25, Try.ntmps25
  go_wp2_with fail
  rw [HE.out.1, HE.out.2]
  clear HE
  go_step3
  go_wp2_with fail
  refine HP.out.mono ?_
  rintro e w3 ⟨rfl, hR⟩
  obtain ⟨R1, k6, B6⟩ := HR.out
  have R3 := R1.call hR
  have B63 := B6.keep hR.2 k6
  have s0 := B63.c 0 _ rfl
  have sl := B63.l
  have hkeep0 : Hid (K1C t6 (.int .u8 11) w3) := Lib.hid s0
  have HC : Hid (∀ V, Below w3.heap.size w3 V → Calls Try.prog 35 #[.pointer (some ⟨rb, 0, none⟩), .pointer (some ⟨fg, 0, none⟩)] V fun e W' => e = .returned (.int .i64 x) ∧ RunK w0 V X rb fgs c s2 (fun b => K1 b ∨ (w3.heap.size ≤ b ∧ b < V.heap.size)) W') := Lib.hid (by
    intro V hb
    have := number_at (R3.under hb).r HF.out.1
    rw [HP2.out] at this
    exact this)
  have HX := Lib.hid (num_ok R3.r HF.out.1)
  rw [HP2.out] at HX
  dsimp only at HX
  have HR3 := Lib.hid (And.intro R3 k6)
  have hbs := HBS.out HX.out HO.out
  have HB2 := Lib.hid hbs
  clear hR HR R1 k6 B6 R3 B63 hbs b0 b1 b2 lb
  go_upto_region 32 with fail
  go_cut [10, 11] (fun s10 s11 wx => s10 = .int .i64 n ∧ s11 = .int .i64 tr ∧ ∃ K', Rk w0 W K wx K' X rb fgs c s2)
  case first =>
    go_region_held3 (fun w' => w'.cell? ⟨t6, 0, none⟩ = some (.int .u8 11))
      ((change K1C t6 (.int .u8 11) _; first | (with_reducible exact hkeep2) | (with_reducible exact hkeep) | (with_reducible exact hkeep0.out) | (with_reducible exact k1_drew hkeep0.out) | fail))
      (first
        | (go_at_call 36; refine (binaries_any _).mono ?_; rintro e w4 ⟨rfl, hb⟩
           have hkeep : K1C t6 (.int .u8 11) w4 := k1_below (by first | (with_reducible exact hkeep2) | (with_reducible exact k1_drew hkeep0.out)) hb
           have HB4 := Lib.hid hb
           clear hb)
        | (go_at_call 35; refine (HC.out _ (by first | (with_reducible exact below_next (below_drew (Below.refl _ _)) HB4.out) | (with_reducible exact below_drew (Below.refl _ _)))).mono ?_; rintro e w5 ⟨rfl, hR⟩
           have hkeep2 : K1C t6 (.int .u8 11) w5 := k1_call hR (.inl HR3.out.2) (by first | (with_reducible exact hkeep) | (with_reducible exact k1_drew hkeep0.out))
           have HR5 := Lib.hid hR
           clear hR)
        | (go_at_call 56; refine (HB2.out _).mono ?_; rintro e w6 ⟨rfl, rfl⟩)
        | fail)
    all_goals go_wp2_with fail
    all_goals go_meet
    all_goals (refine ⟨rfl, rfl, ?_⟩; first | exact ⟨_, (HR3.out.1.under (below_next (below_drew (Below.refl _ _)) HB4.out)).call HR5.out⟩ | exact ((HR3.out.1.under (below_drew (Below.refl _ _))).call HR5.out).below HB4.out |>.elim (fun K' h => ⟨K', h.1⟩) | fail)
  case rest =>
    obtain ⟨rfl, rfl, K5, R5⟩ := hcut
    have HN : Hid (I64 n) := Lib.hid (by have := binV_ok 11 HX.out HO.out; rw [HBV.out] at this; exact this)
    have HI := Lib.hid (fun w => int_any n w)
    unfold vagg vInt at HI
    dsimp only at HI
    have HR5 := Lib.hid R5
    clear R5 s0 sl HC hix hfld
    by_cases htr : tr = 0
    · subst htr
      have HBR := Lib.hid (binRes_ok n s2)
      go_wp2_with fail
      refine (HI.out _).mono ?_
      rintro e w7 ⟨rfl, hb⟩
      obtain ⟨KA, RA, -, -⟩ := HR5.out.below hb
      have HCP := Lib.hid (push_at RA.r HF.out.1 (vInt n) (vint_ok HN.out))
      unfold vagg vInt at HCP
      dsimp only at HCP
      have HRA := Lib.hid RA
      clear hb RA HR5
      go_wp2_with fail
      refine HCP.out.mono ?_
      rintro e w8 ⟨rfl, hR⟩
      have HB := Lib.hid (left_of (HRA.out.call hR).done HF.out.2 HF.out.1)
      clear hR HRA
      go_wp2_with fail
      (try rw [Exit.noGoto_ret])
      go_ret
      rw [HBR.out]
      exact ⟨rfl, HB.out⟩
    · have hq : (tr != 0) = true := by simpa using htr
      have HBR := Lib.hid (binRes_trap (n := n) (s := s2) htr)
      have HB := Lib.hid (left_of HR5.out.done HF.out.2 HF.out.1)
      clear htr
      go_wp2_with fail
      (try rw [Exit.noGoto_ret])
      go_ret
      rw [HBR.out]
      exact ⟨rfl, HB.out⟩
end
#print axioms do_11
end Go.Proofs.Ytkhgpeejmbfmjaa
