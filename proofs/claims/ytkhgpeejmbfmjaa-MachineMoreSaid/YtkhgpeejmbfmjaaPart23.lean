/- Parts of the walk, joined. -/
import Derived.Test.YtkhgpeejmbfmjaaPart10
/- The run in memory: do: an array made. -/
namespace Go.Proofs.Ytkhgpeejmbfmjaa
open Go.RowKit
set_option linter.unusedSimpArgs false
set_option linter.unusedVariables false
set_option maxRecDepth 100000
section
variable {w0 W : World} {X : Sx} {rb : Nat} {fgs : List Nat} {c : Nat} {s : Mc} {K : Nat → Prop} {fg : Nat}

set_option maxHeartbeats 4000000 in
theorem do_22 (h : RunAt w0 W X rb fgs c s K) (hf : Topf fgs fg) (a b p : Int) (ha : I64 a) (hp : I64 p) (hc : c < 25000) : Calls Try.prog 25 #[.pointer (some ⟨rb, 0, none⟩), .pointer (some ⟨fg, 0, none⟩), .agg #[.int .u8 22, .int .i64 a, .int .i64 b], .int .i64 p] W fun e W' => e = .returned (.int .i64 (s.do_ X.m X.l 22 a p).1) ∧ Left w0 W X rb c (s.do_ X.m X.l 22 a p).2 K W' := by
  obtain ⟨W1, t6, K1, hW1, ht6, R1, k6, B6, -⟩ := first_block h #[.int .u8 22, .int .i64 a, .int .i64 b] 46
  have HF := Lib.hid (And.intro hf hc)
  have HE := Lib.hid (And.intro hW1 ht6)
  have b0 := B6.c 0 _ rfl
  have b1 := B6.c 1 _ rfl
  have b2 := B6.c 2 _ rfl
  have lb := B6.l
  show Calls Try.prog 25 _ W fun e W' => e = .returned (.int .i64 ((if s.number.1 < 0 ∨ a < s.number.1 then (2, s.number.2) else (0, s.number.2.array X.l s.number.1)).1)) ∧ Left w0 W X rb c ((if s.number.1 < 0 ∨ a < s.number.1 then (2, s.number.2) else (0, s.number.2.array X.l s.number.1)).2) K W'
  have HP := Lib.hid (number_at R1.r hf)
  have HR := Lib.hid (And.intro R1 (And.intro k6 B6))
  generalize s.number = q at *
  obtain ⟨n, s1⟩ := q
  dsimp only at *
  clear h hf ha hp hc R1 k6 B6 hW1 ht6
  by_cases hn : n < 0 ∨ a < n
  · rw [if_pos hn]
    dsimp only
    have hdd : (decide (n < 0) || decide (a < n)) = true := by rw [Bool.or_eq_true, decide_eq_true_eq, decide_eq_true_eq]; exact hn
    go_enter Try.func25, Try.ntmps25
    go_wp2_with fail
    rw [HE.out.1, HE.out.2]
    clear HE
    refine wp_scope_jumps 0 (JumpAt (fun w' => Left w0 W X rb c s1 K w')) (fun _ _ => 0) rfl ?_ ?_
    · go_wp2_with fail
      refine HP.out.mono ?_
      rintro e w2 ⟨rfl, hR⟩
      obtain ⟨R1, k6, B6⟩ := HR.out
      have R2 := R1.call hR
      have B62 := B6.keep hR.2 k6
      have d1 := B62.c 1 _ rfl
      have dl := B62.l
      have HB := Lib.hid (left_of R2.done HF.out.2 HF.out.1)
      clear hR R1 k6 B6 R2 B62 HR b0 b1 b2 lb hdd
      by_cases hn0 : n < 0
      · have hd0 : decide (n < 0) = true := decide_eq_true hn0
        clear hn
        go_wp2_with fail
        go_step3
        exact ⟨rfl, _, rfl, rfl, HB.out⟩
      · have hd0 : decide (n < 0) = false := decide_eq_false hn0
        have hd1 : decide (a < n) = true := decide_eq_true (by omega)
        have hn1 : a < n := by omega
        clear hn
        go_wp2_with fail
        go_step3
        exact ⟨rfl, _, rfl, rfl, HB.out⟩
    · rintro a' w' ⟨T, rfl, hT, hl⟩
      have HB := Lib.hid hl
      clear hl
      go_wp2_with fail
      (try simp only [Exit.jump])
      exact bodyPost_ret (v := .int .i64 2) (by simp [results, Try.results25, go_sem, hT]) rfl ⟨rfl, HB.out⟩
  · rw [if_neg hn]
    dsimp only
    have hd0 : decide (n < 0) = false := decide_eq_false (by omega)
    have hd1 : decide (a < n) = false := decide_eq_false (by omega)
    have hn0 : 0 ≤ n := by omega
    have hn1 : n ≤ a := by omega
    clear hn
    go_enter Try.func25, Try.ntmps25
    go_wp2_with fail
    rw [HE.out.1, HE.out.2]
    clear HE
    go_step3
    go_wp2_with fail
    refine HP.out.mono ?_
    rintro e w2 ⟨rfl, hR⟩
    obtain ⟨R1, k6, B6⟩ := HR.out
    have R2 := R1.call hR
    have B62 := B6.keep hR.2 k6
    have d1 := B62.c 1 _ rfl
    have dl := B62.l
    have HC := Lib.hid (array_at R2.r HF.out.1 n HF.out.2)
    have HR2 := Lib.hid R2
    clear hR R1 k6 B6 R2 B62 HR b0 b1 b2 lb
    go_wp2_with fail
    refine HC.out.mono ?_
    rintro e w3 ⟨rfl, hR⟩
    have HB := Lib.hid (left_of' (HR2.out.call hR).done HF.out.1)
    clear hR HR2
    go_wp2_with fail
    (try rw [Exit.noGoto_ret])
    go_ret
    exact ⟨rfl, HB.out⟩
end
#print axioms do_22
end Go.Proofs.Ytkhgpeejmbfmjaa
