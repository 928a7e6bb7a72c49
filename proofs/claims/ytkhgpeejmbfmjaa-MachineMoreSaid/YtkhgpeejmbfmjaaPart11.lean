/- Parts of the walk, joined. -/
import Derived.Test.YtkhgpeejmbfmjaaPart09
import Derived.WalkMore
import Derived.ScopeJumps
/- The run in memory: do: nothing, move, juggle, traps, turns. -/
namespace Go.Proofs.Ytkhgpeejmbfmjaa
open Go.RowKit
set_option linter.unusedSimpArgs false
set_option linter.unusedVariables false
set_option maxRecDepth 100000
section
variable {w0 W : World} {X : Sx} {rb : Nat} {fgs : List Nat} {c : Nat} {s : Mc} {K : Nat → Prop} {fg : Nat}

set_option maxHeartbeats 2000000 in
theorem do_6 (h : RunAt w0 W X rb fgs c s K) (hf : Topf fgs fg) (a b p : Int) (ha : I64 a) (hp : I64 p) (hc : c < 25000) : Calls Try.prog 25 #[.pointer (some ⟨rb, 0, none⟩), .pointer (some ⟨fg, 0, none⟩), .agg #[.int .u8 6, .int .i64 a, .int .i64 b], .int .i64 p] W fun e W' => e = .returned (.int .i64 (s.do_ X.m X.l 6 a p).1) ∧ Left w0 W X rb c (s.do_ X.m X.l 6 a p).2 K W' := by
  obtain ⟨W1, t6, K1, hW1, ht6, R1, k6, B6, -⟩ := first_block h #[.int .u8 6, .int .i64 a, .int .i64 b] 46
  have HF := Lib.hid (And.intro hf hc)
  have HE := Lib.hid (And.intro hW1 ht6)
  have b0 := B6.c 0 _ rfl
  have b1 := B6.c 1 _ rfl
  have b2 := B6.c 2 _ rfl
  have lb := B6.l
  show Calls Try.prog 25 _ W fun e W' => e = .returned (.int .i64 (0)) ∧ Left w0 W X rb c (s.juggle 6) K W'
  have HP := Lib.hid (juggle_o R1.r hf 6 (by decide) (by decide))
  have HR := Lib.hid R1
  clear h hf ha hp hc R1 k6 B6 hW1 ht6
  go_enter Try.func25, Try.ntmps25
  go_wp2_with fail
  rw [HE.out.1, HE.out.2]
  clear HE
  go_step3
  go_wp2_with fail
  refine HP.out.mono ?_
  rintro e w2 ⟨rfl, hR⟩
  have HB := Lib.hid (left_of (HR.out.call hR).done HF.out.2 HF.out.1)
  clear hR HR
  go_wp2_with fail
  (try rw [Exit.noGoto_ret])
  go_ret
  exact ⟨rfl, HB.out⟩

set_option maxHeartbeats 2000000 in
theorem do_7 (h : RunAt w0 W X rb fgs c s K) (hf : Topf fgs fg) (a b p : Int) (ha : I64 a) (hp : I64 p) (hc : c < 25000) : Calls Try.prog 25 #[.pointer (some ⟨rb, 0, none⟩), .pointer (some ⟨fg, 0, none⟩), .agg #[.int .u8 7, .int .i64 a, .int .i64 b], .int .i64 p] W fun e W' => e = .returned (.int .i64 (s.do_ X.m X.l 7 a p).1) ∧ Left w0 W X rb c (s.do_ X.m X.l 7 a p).2 K W' := by
  obtain ⟨W1, t6, K1, hW1, ht6, R1, k6, B6, -⟩ := first_block h #[.int .u8 7, .int .i64 a, .int .i64 b] 46
  have HF := Lib.hid (And.intro hf hc)
  have HE := Lib.hid (And.intro hW1 ht6)
  have b0 := B6.c 0 _ rfl
  have b1 := B6.c 1 _ rfl
  have b2 := B6.c 2 _ rfl
  have lb := B6.l
  show Calls Try.prog 25 _ W fun e W' => e = .returned (.int .i64 (0)) ∧ Left w0 W X rb c (s.juggle 7) K W'
  have HP := Lib.hid (juggle_7 R1.r hf)
  have HR := Lib.hid R1
  clear h hf ha hp hc R1 k6 B6 hW1 ht6
  go_enter Try.func25, Try.ntmps25
  go_wp2_with fail
  rw [HE.out.1, HE.out.2]
  clear HE
  go_step3
  go_wp2_with fail
  refine HP.out.mono ?_
  rintro e w2 ⟨rfl, hR⟩
  have HB := Lib.hid (left_of (HR.out.call hR).done HF.out.2 HF.out.1)
  clear hR HR
  go_wp2_with fail
  (try rw [Exit.noGoto_ret])
  go_ret
  exact ⟨rfl, HB.out⟩

set_option maxHeartbeats 2000000 in
theorem do_8 (h : RunAt w0 W X rb fgs c s K) (hf : Topf fgs fg) (a b p : Int) (ha : I64 a) (hp : I64 p) (hc : c < 25000) : Calls Try.prog 25 #[.pointer (some ⟨rb, 0, none⟩), .pointer (some ⟨fg, 0, none⟩), .agg #[.int .u8 8, .int .i64 a, .int .i64 b], .int .i64 p] W fun e W' => e = .returned (.int .i64 (s.do_ X.m X.l 8 a p).1) ∧ Left w0 W X rb c (s.do_ X.m X.l 8 a p).2 K W' := by
  obtain ⟨W1, t6, K1, hW1, ht6, R1, k6, B6, -⟩ := first_block h #[.int .u8 8, .int .i64 a, .int .i64 b] 46
  have HF := Lib.hid (And.intro hf hc)
  have HE := Lib.hid (And.intro hW1 ht6)
  have b0 := B6.c 0 _ rfl
  have b1 := B6.c 1 _ rfl
  have b2 := B6.c 2 _ rfl
  have lb := B6.l
  show Calls Try.prog 25 _ W fun e W' => e = .returned (.int .i64 (0)) ∧ Left w0 W X rb c (s.juggle 8) K W'
  have HP := Lib.hid (juggle_8 R1.r hf)
  have HR := Lib.hid R1
  clear h hf ha hp hc R1 k6 B6 hW1 ht6
  go_enter Try.func25, Try.ntmps25
  go_wp2_with fail
  rw [HE.out.1, HE.out.2]
  clear HE
  go_step3
  go_wp2_with fail
  refine HP.out.mono ?_
  rintro e w2 ⟨rfl, hR⟩
  have HB := Lib.hid (left_of (HR.out.call hR).done HF.out.2 HF.out.1)
  clear hR HR
  go_wp2_with fail
  (try rw [Exit.noGoto_ret])
  go_ret
  exact ⟨rfl, HB.out⟩
end
#print axioms do_6
#print axioms do_7
#print axioms do_8
end Go.Proofs.Ytkhgpeejmbfmjaa
