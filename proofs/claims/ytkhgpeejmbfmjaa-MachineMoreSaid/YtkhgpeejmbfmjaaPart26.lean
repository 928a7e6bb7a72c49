/- Parts of the walk, joined. -/
import Derived.Test.YtkhgpeejmbfmjaaPart10
import Derived.Deep.RegionHeld3
import Derived.Deep.DeepCutAuto
/- The run in memory: do: a word stored. -/
namespace Go.Proofs.Ytkhgpeejmbfmjaa
open Go.RowKit
set_option linter.unusedSimpArgs false
set_option linter.unusedVariables false
set_option maxRecDepth 100000
section
variable {w0 W : World} {X : Sx} {rb : Nat} {fgs : List Nat} {c : Nat} {s : Mc} {K : Nat → Prop} {fg : Nat}

set_option maxHeartbeats 4000000 in
theorem do_24 (h : RunAt w0 W X rb fgs c s K) (hf : Topf fgs fg) (a b p : Int) (ha : I64 a) (hp : I64 p) (hc : c < 25000) : Calls Try.prog 25 #[.pointer (some ⟨rb, 0, none⟩), .pointer (some ⟨fg, 0, none⟩), .agg #[.int .u8 24, .int .i64 a, .int .i64 b], .int .i64 p] W fun e W' => e = .returned (.int .i64 (s.do_ X.m X.l 24 a p).1) ∧ Left w0 W X rb c (s.do_ X.m X.l 24 a p).2 K W' := by
  obtain ⟨W1, t6, K1, hW1, ht6, R1, k6, B6, -⟩ := first_block h #[.int .u8 24, .int .i64 a, .int .i64 b] 46
  have HF := Lib.hid (And.intro hf hc)
  have HE := Lib.hid (And.intro hW1 ht6)
  have b0 := B6.c 0 _ rfl
  have b1 := B6.c 1 _ rfl
  have b2 := B6.c 2 _ rfl
  have lb := B6.l
  have e : s.do_ X.m X.l 24 a p = (if (s.number.2.number.2.pop 3).2.e = 0 then (if (atV (s.number.2.number.2.pop 3).2.hp (s.number.2.number.2.pop 3).1.2.1 s.number.2.number.1).2 then (0, { (s.number.2.number.2.pop 3).2 with hp := putH (s.number.2.number.2.pop 3).2.hp (s.number.2.number.2.pop 3).1.2.1 s.number.2.number.1 s.number.1 }) else (2, (s.number.2.number.2.pop 3).2)) else (0, (s.number.2.number.2.pop 3).2)) := rfl
  rw [e]
  have HP := Lib.hid (number_at R1.r hf)
  have HO := Lib.hid (num_ok R1.r hf)
  have HR := Lib.hid R1
  generalize s.number = q0 at *
  obtain ⟨v, s1⟩ := q0
  dsimp only at *
  obtain ⟨⟨i, s2⟩, hp2⟩ : ∃ p, s1.number = p := ⟨_, rfl⟩
  rw [hp2]
  dsimp only
  obtain ⟨⟨⟨u0, ref, u2⟩, s3⟩, hp3⟩ : ∃ p, s2.pop 3 = p := ⟨_, rfl⟩
  rw [hp3]
  dsimp only
  have HP2 := Lib.hid (And.intro hp2 hp3)
  obtain ⟨q, hq⟩ : ∃ r, (atV s3.hp ref i).2 = r := ⟨_, rfl⟩
  obtain ⟨s4, hs4⟩ : ∃ r : Mc, { s3 with hp := putH s3.hp ref i v } = r := ⟨_, rfl⟩
  rw [hq, hs4]
  have HQ := Lib.hid (And.intro hq hs4)
  have hfld := fun w => field29 u0 ref u2 w
  clear h hf ha hp hc R1 k6 B6 hW1 ht6 hp2 hp3 hq hs4 e
  by_cases he : s3.e = 0
  · rw [if_pos he]
    have HH := Lib.hid he
    cases q with
    | true =>
      rw [if_pos rfl]
      dsimp only
      clear he
      go_enter Try.func25, Try.ntmps25
      go_wp2_with fail
      rw [HE.out.1, HE.out.2]
      clear HE
      go_step3
      go_wp2_with fail
      refine HP.out.mono ?_
      rintro e w2 ⟨rfl, hR⟩
      have R2 := HR.out.call hR
      have HC := Lib.hid (number_at R2.r HF.out.1)
      rw [HP2.out.1] at HC
      dsimp only at HC
      have HR2 := Lib.hid R2
      clear hR HR R2
      go_wp2_with fail
      refine HC.out.mono ?_
      rintro e w3 ⟨rfl, hR⟩
      have R3 := HR2.out.call hR
      have HC2 := Lib.hid (pop_at R3.r HF.out.1 3 (by omega))
      rw [HP2.out.2] at HC2
      unfold vagg at HC2
      dsimp only at HC2
      have HR3 := Lib.hid R3
      clear hR HR2 R3
      go_wp2_with fail
      refine HC2.out.mono ?_
      rintro e w4 ⟨rfl, hR⟩
      have R4 := HR3.out.call hR
      have c14 := R4.r.c14
      have c6 := R4.r.c6
      have rl := R4.r.rbl
      rw [HH.out] at c14
      have HC3 := Lib.hid (r_put R4.r ref i v HO.out)
      rw [HQ.out.1, HQ.out.2] at HC3
      have HR4 := Lib.hid R4
      clear hR HR3 R4
      go_wp2_with fail
      refine HC3.out.mono ?_
      rintro e w5 ⟨rfl, hR⟩
      have HB := Lib.hid (left_of (HR4.out.call hR).done HF.out.2 HF.out.1)
      clear hR HR4
      go_wp2_with fail
      (try rw [Exit.noGoto_ret])
      go_ret
      exact ⟨rfl, HB.out⟩
    | false =>
      rw [if_neg (by decide)]
      dsimp only
      clear he
      go_enter Try.func25, Try.ntmps25
      go_wp2_with fail
      rw [HE.out.1, HE.out.2]
      clear HE
      refine wp_scope_jumps 0 (JumpAt (fun w' => Left w0 W X rb c s3 K w')) (fun _ _ => 0) rfl ?_ ?_
      · go_wp2_with fail
        refine HP.out.mono ?_
        rintro e w2 ⟨rfl, hR⟩
        have R2 := HR.out.call hR
        have HC := Lib.hid (number_at R2.r HF.out.1)
        rw [HP2.out.1] at HC
        dsimp only at HC
        have HR2 := Lib.hid R2
        clear hR HR R2
        go_wp2_with fail
        refine HC.out.mono ?_
        rintro e w3 ⟨rfl, hR⟩
        have R3 := HR2.out.call hR
        have HC2 := Lib.hid (pop_at R3.r HF.out.1 3 (by omega))
        rw [HP2.out.2] at HC2
        unfold vagg at HC2
        dsimp only at HC2
        have HR3 := Lib.hid R3
        clear hR HR2 R3
        go_wp2_with fail
        refine HC2.out.mono ?_
        rintro e w4 ⟨rfl, hR⟩
        have R4 := HR3.out.call hR
        have c14 := R4.r.c14
        have c6 := R4.r.c6
        have rl := R4.r.rbl
        rw [HH.out] at c14
        have HC3 := Lib.hid (r_put R4.r ref i v HO.out)
        rw [putH_no v HQ.out.1, HQ.out.1] at HC3
        have HR4 := Lib.hid R4
        clear hR HR3 R4
        go_wp2_with fail
        refine HC3.out.mono ?_
        rintro e w5 ⟨rfl, hR⟩
        have HB := Lib.hid (left_of (s := s3) (HR4.out.call hR).done HF.out.2 HF.out.1)
        clear hR HR4
        go_wp2_with fail
        go_step3
        exact ⟨rfl, _, rfl, rfl, HB.out⟩
      · rintro a' w' ⟨T, rfl, hT, hl⟩
        have HB := Lib.hid hl
        clear hl
        go_wp2_with fail
        (try simp only [Exit.jump])
        exact bodyPost_ret (v := .int .i64 2) (by simp [results, Try.results25, go_sem, hT]) rfl ⟨rfl, HB.out⟩
  · rw [if_neg he]
    dsimp only
    have hqe : (s3.e == 0) = false := by rw [beq_eq_false_iff_ne]; exact he
    clear he
    go_enter Try.func25, Try.ntmps25
    go_wp2_with fail
    rw [HE.out.1, HE.out.2]
    clear HE
    go_step3
    go_wp2_with fail
    refine HP.out.mono ?_
    rintro e w2 ⟨rfl, hR⟩
    have R2 := HR.out.call hR
    have HC := Lib.hid (number_at R2.r HF.out.1)
    rw [HP2.out.1] at HC
    dsimp only at HC
    have HR2 := Lib.hid R2
    clear hR HR R2
    go_wp2_with fail
    refine HC.out.mono ?_
    rintro e w3 ⟨rfl, hR⟩
    have R3 := HR2.out.call hR
    have HC2 := Lib.hid (pop_at R3.r HF.out.1 3 (by omega))
    rw [HP2.out.2] at HC2
    unfold vagg at HC2
    dsimp only at HC2
    have HR3 := Lib.hid R3
    clear hR HR2 R3
    go_wp2_with fail
    refine HC2.out.mono ?_
    rintro e w4 ⟨rfl, hR⟩
    have R4 := HR3.out.call hR
    have c14 := R4.r.c14
    have c6 := R4.r.c6
    have rl := R4.r.rbl
    have HB := Lib.hid (left_of R4.done HF.out.2 HF.out.1)
    clear hR HR3 R4
    go_wp2_with fail
    (try rw [Exit.noGoto_ret])
    go_ret
    exact ⟨rfl, HB.out⟩
end
#print axioms do_24
end Go.Proofs.Ytkhgpeejmbfmjaa
