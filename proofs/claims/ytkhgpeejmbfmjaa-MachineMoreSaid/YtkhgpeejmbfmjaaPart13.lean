/- Parts of the walk, joined. -/
import Derived.Test.YtkhgpeejmbfmjaaPart10
/- The run in memory: do: pairs. -/
namespace Go.Proofs.Ytkhgpeejmbfmjaa
open Go.RowKit
set_option linter.unusedSimpArgs false
set_option linter.unusedVariables false
set_option maxRecDepth 100000
section
variable {w0 W : World} {X : Sx} {rb : Nat} {fgs : List Nat} {c : Nat} {s : Mc} {K : Nat → Prop} {fg : Nat}

set_option maxHeartbeats 2000000 in
theorem do_16 (h : RunAt w0 W X rb fgs c s K) (hf : Topf fgs fg) (a b p : Int) (ha : I64 a) (hp : I64 p) (hc : c < 25000) : Calls Try.prog 25 #[.pointer (some ⟨rb, 0, none⟩), .pointer (some ⟨fg, 0, none⟩), .agg #[.int .u8 16, .int .i64 a, .int .i64 b], .int .i64 p] W fun e W' => e = .returned (.int .i64 (s.do_ X.m X.l 16 a p).1) ∧ Left w0 W X rb c (s.do_ X.m X.l 16 a p).2 K W' := by
  obtain ⟨W1, t6, K1, hW1, ht6, R1, k6, B6, -⟩ := first_block h #[.int .u8 16, .int .i64 a, .int .i64 b] 46
  have HF := Lib.hid (And.intro hf hc)
  have HE := Lib.hid (And.intro hW1 ht6)
  have b0 := B6.c 0 _ rfl
  have b1 := B6.c 1 _ rfl
  have b2 := B6.c 2 _ rfl
  have lb := B6.l
  show Calls Try.prog 25 _ W fun e W' => e = .returned (.int .i64 ((s.number.2.number.2.pushed (if mayB s.number.2.number.1 s.number.1 then (s.number.2.number.1, s.number.1, true) else (0, 0, false))).1)) ∧ Left w0 W X rb c ((s.number.2.number.2.pushed (if mayB s.number.2.number.1 s.number.1 then (s.number.2.number.1, s.number.1, true) else (0, 0, false))).2) K W'
  have HP := Lib.hid (number_at R1.r hf)
  have HO := Lib.hid (num_ok R1.r hf)
  have HR := Lib.hid R1
  generalize s.number = q at *
  obtain ⟨y, s1⟩ := q
  dsimp only at *
  obtain ⟨⟨x, s2⟩, hp2⟩ : ∃ p, s1.number = p := ⟨_, rfl⟩
  rw [hp2]
  dsimp only
  have HP2 := Lib.hid hp2
  obtain ⟨⟨r1, r2, r3⟩, hr⟩ : ∃ r : Int × Int × Bool, (if mayB x y then (x, y, true) else (0, 0, false)) = r := ⟨_, rfl⟩
  rw [hr]
  have hpv : vagg (pairV x y) = .agg #[.int .u8 (if r3 then 2 else 0), .int .i64 r1, .int .i64 r2] ∧ mayB x y = r3 := by
    unfold pairV vagg
    cases hm : mayB x y with
    | true => rw [hm] at hr; cases hr; exact ⟨rfl, rfl⟩
    | false => rw [hm] at hr; cases hr; exact ⟨rfl, rfl⟩
  obtain ⟨kd, hkd⟩ : ∃ k : Int, (if r3 then 2 else 0) = k := ⟨_, rfl⟩
  have HV : Hid (I64 x → I64 y → (r3 = true → VOk (2, r1, r2))) := Lib.hid (by
    intro hx hy h3
    rw [h3] at hr
    split at hr
    · cases hr; exact ⟨by dsimp only; omega, hx, hy⟩
    · cases hr)
  have HPA := Lib.hid (fun w => vpair_any x y w)
  rw [hpv.1, hpv.2, hkd] at HPA
  clear h hf ha hp hc R1 k6 B6 hW1 ht6 hp2 hr hpv hkd
  go_enter Try.func25, Try.ntmps25
  go_wp2_with fail
  rw [HE.out.1, HE.out.2]
  clear HE
  go_step3
  go_wp2_with fail
  refine HP.out.mono ?_
  rintro e w2 ⟨rfl, hR⟩
  have R2 := HR.out.call hR
  have HC := Lib.hid (number_at R2.r HF.out.1)
  have HX := Lib.hid (num_ok R2.r HF.out.1)
  rw [HP2.out] at HC HX
  dsimp only at HC HX
  have HR2 := Lib.hid R2
  clear hR HR R2
  go_wp2_with fail
  refine HC.out.mono ?_
  rintro e w3 ⟨rfl, hR⟩
  have HR3 := Lib.hid (HR2.out.call hR)
  clear hR HR2
  go_wp2_with fail
  refine (HPA.out _).mono ?_
  rintro e w4 ⟨rfl, hb⟩
  obtain ⟨K4, R4, -, -⟩ := HR3.out.below hb
  obtain ⟨K5, R5, -, -⟩ := R4.alloc (.cells #[.int .u8 kd, .int .i64 r1, .int .i64 r2] 29)
  have HC2 := Lib.hid (pushed_at R5.r HF.out.1 r1 r2 r3 (HV.out HX.out HO.out))
  have HR5 := Lib.hid R5
  clear hb R4 R5 HR3
  go_wp2_with fail
  refine HC2.out.mono ?_
  rintro e w5 ⟨rfl, hR⟩
  have HB := Lib.hid (left_of (HR5.out.call hR).done HF.out.2 HF.out.1)
  clear hR HR5
  go_wp2_with fail
  (try rw [Exit.noGoto_ret])
  go_ret
  exact ⟨rfl, HB.out⟩

set_option maxHeartbeats 2000000 in
theorem do_17 (h : RunAt w0 W X rb fgs c s K) (hf : Topf fgs fg) (a b p : Int) (ha : I64 a) (hp : I64 p) (hc : c < 25000) : Calls Try.prog 25 #[.pointer (some ⟨rb, 0, none⟩), .pointer (some ⟨fg, 0, none⟩), .agg #[.int .u8 17, .int .i64 a, .int .i64 b], .int .i64 p] W fun e W' => e = .returned (.int .i64 (s.do_ X.m X.l 17 a p).1) ∧ Left w0 W X rb c (s.do_ X.m X.l 17 a p).2 K W' := by
  obtain ⟨W1, t6, K1, hW1, ht6, R1, k6, B6, -⟩ := first_block h #[.int .u8 17, .int .i64 a, .int .i64 b] 46
  have HF := Lib.hid (And.intro hf hc)
  have HE := Lib.hid (And.intro hW1 ht6)
  have b0 := B6.c 0 _ rfl
  have b1 := B6.c 1 _ rfl
  have b2 := B6.c 2 _ rfl
  have lb := B6.l
  show Calls Try.prog 25 _ W fun e W' => e = .returned (.int .i64 (0)) ∧ Left w0 W X rb c (s.pair.2.push (vInt s.pair.1.1)) K W'
  have HP := Lib.hid (pair_at R1.r hf)
  have HO := Lib.hid (pair_ok R1.r hf)
  have HR := Lib.hid R1
  generalize s.pair = q at *
  obtain ⟨⟨n, y⟩, s1⟩ := q
  dsimp only at *
  have HN := Lib.hid HO.out.1
  have ix : ∀ w, (Instr.index 100 (.agg #[.int .i64 n, .int .i64 y]) (.int .i64 0)).run Try.prog w = .ok (.int .i64 n) w := fun _ => by kernel_rfl
  clear h hf ha hp hc R1 k6 B6 hW1 ht6
  go_enter Try.func25, Try.ntmps25
  go_wp2_with fail
  rw [HE.out.1, HE.out.2]
  clear HE
  go_step3
  go_wp2_with fail
  refine HP.out.mono ?_
  rintro e w2 ⟨rfl, hR⟩
  have R2 := HR.out.call hR
  have HI := Lib.hid (int_any n w2)
  unfold vagg vInt at HI
  dsimp only at HI
  have HR2 := Lib.hid R2
  clear hR HR R2
  go_wp2_with fail
  refine HI.out.mono ?_
  rintro e w3 ⟨rfl, hb⟩
  obtain ⟨KA, RA, -, -⟩ := HR2.out.below hb
  have HCP := Lib.hid (push_at RA.r HF.out.1 (vInt n) (vint_ok HN.out))
  unfold vagg vInt at HCP
  dsimp only at HCP
  have HRA := Lib.hid RA
  clear hb RA HR2
  go_wp2_with fail
  refine HCP.out.mono ?_
  rintro e w4 ⟨rfl, hR⟩
  have HB := Lib.hid (left_of (HRA.out.call hR).done HF.out.2 HF.out.1)
  clear hR HRA
  go_wp2_with fail
  (try rw [Exit.noGoto_ret])
  go_ret
  exact ⟨rfl, HB.out⟩
end
#print axioms do_16
#print axioms do_17
end Go.Proofs.Ytkhgpeejmbfmjaa
