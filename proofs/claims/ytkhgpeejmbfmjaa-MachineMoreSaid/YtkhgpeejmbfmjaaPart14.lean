/- Parts of the walk, joined. -/
import Derived.Test.YtkhgpeejmbfmjaaPart10
/- The run in memory: do: an imaginary part. -/
namespace Go.Proofs.Ytkhgpeejmbfmjaa
open Go.RowKit
set_option linter.unusedSimpArgs false
set_option linter.unusedVariables false
set_option maxRecDepth 100000
section
variable {w0 W : World} {X : Sx} {rb : Nat} {fgs : List Nat} {c : Nat} {s : Mc} {K : Nat → Prop} {fg : Nat}

set_option maxHeartbeats 2000000 in
theorem do_18 (h : RunAt w0 W X rb fgs c s K) (hf : Topf fgs fg) (a b p : Int) (ha : I64 a) (hp : I64 p) (hc : c < 25000) : Calls Try.prog 25 #[.pointer (some ⟨rb, 0, none⟩), .pointer (some ⟨fg, 0, none⟩), .agg #[.int .u8 18, .int .i64 a, .int .i64 b], .int .i64 p] W fun e W' => e = .returned (.int .i64 (s.do_ X.m X.l 18 a p).1) ∧ Left w0 W X rb c (s.do_ X.m X.l 18 a p).2 K W' := by
  obtain ⟨W1, t6, K1, hW1, ht6, R1, k6, B6, -⟩ := first_block h #[.int .u8 18, .int .i64 a, .int .i64 b] 46
  have HF := Lib.hid (And.intro hf hc)
  have HE := Lib.hid (And.intro hW1 ht6)
  have b0 := B6.c 0 _ rfl
  have b1 := B6.c 1 _ rfl
  have b2 := B6.c 2 _ rfl
  have lb := B6.l
  show Calls Try.prog 25 _ W fun e W' => e = .returned (.int .i64 (0)) ∧ Left w0 W X rb c ((s.pair.2.push (2, s.pair.1.2, s.pair.1.1)).pair.2.push (vInt (s.pair.2.push (2, s.pair.1.2, s.pair.1.1)).pair.1.1)) K W'
  have HP := Lib.hid (pair_at R1.r hf)
  have HO := Lib.hid (pair_ok R1.r hf)
  have HR := Lib.hid R1
  generalize s.pair = q at *
  obtain ⟨⟨x, y⟩, s1⟩ := q
  dsimp only at *
  obtain ⟨s2, hs2⟩ : ∃ p, s1.push (2, y, x) = p := ⟨_, rfl⟩
  rw [hs2]
  obtain ⟨⟨⟨n, z⟩, s3⟩, hp2⟩ : ∃ p, s2.pair = p := ⟨_, rfl⟩
  rw [hp2]
  dsimp only
  have HS := Lib.hid (And.intro hs2 hp2)
  have ix : ∀ w, (Instr.index 100 (.agg #[.int .i64 n, .int .i64 z]) (.int .i64 0)).run Try.prog w = .ok (.int .i64 n) w := fun _ => by kernel_rfl
  clear h hf ha hp hc R1 k6 B6 hW1 ht6 hs2 hp2
  go_enter Try.func25, Try.ntmps25
  go_wp2_with fail
  rw [HE.out.1, HE.out.2]
  clear HE
  go_step3
  go_wp2_with fail
  refine HP.out.mono ?_
  rintro e w2 ⟨rfl, hR⟩
  have R2 := HR.out.call hR
  obtain ⟨K3, R3, -, -⟩ := R2.alloc (.cells #[.int .i64 x, .int .i64 y] 100)
  have HC := Lib.hid (push_at R3.r HF.out.1 (2, y, x) ⟨by dsimp only; omega, HO.out.2, HO.out.1⟩)
  rw [HS.out.1] at HC
  unfold vagg at HC
  dsimp only at HC
  have HR3 := Lib.hid R3
  clear hR HR R2 R3
  go_wp2_with fail
  refine HC.out.mono ?_
  rintro e w3 ⟨rfl, hR⟩
  have R4 := HR3.out.call hR
  have HC2 := Lib.hid (pair_at R4.r HF.out.1)
  have HN2 := Lib.hid (pair_ok R4.r HF.out.1)
  rw [HS.out.2] at HC2 HN2
  dsimp only at HC2 HN2
  have HN := Lib.hid HN2.out.1
  have HR4 := Lib.hid R4
  clear hR R4 HR3
  go_wp2_with fail
  refine HC2.out.mono ?_
  rintro e w4 ⟨rfl, hR⟩
  have R5 := HR4.out.call hR
  have HI := Lib.hid (int_any n w4)
  unfold vagg vInt at HI
  dsimp only at HI
  have HR5 := Lib.hid R5
  clear hR HR4 R5
  go_wp2_with fail
  refine HI.out.mono ?_
  rintro e w5 ⟨rfl, hb⟩
  obtain ⟨KA, RA, -, -⟩ := HR5.out.below hb
  have HCP := Lib.hid (push_at RA.r HF.out.1 (vInt n) (vint_ok HN.out))
  unfold vagg vInt at HCP
  dsimp only at HCP
  have HRA := Lib.hid RA
  clear hb RA HR5
  go_wp2_with fail
  refine HCP.out.mono ?_
  rintro e w6 ⟨rfl, hR⟩
  have HB := Lib.hid (left_of (HRA.out.call hR).done HF.out.2 HF.out.1)
  clear hR HRA
  go_wp2_with fail
  (try rw [Exit.noGoto_ret])
  go_ret
  exact ⟨rfl, HB.out⟩
end
#print axioms do_18
end Go.Proofs.Ytkhgpeejmbfmjaa
