/- Parts of the walk, joined. -/
import Derived.Test.YtkhgpeejmbfmjaaPart10
import Derived.Deep.RegionHeld3
import Derived.Deep.DeepCutAuto
/- The run in memory: do: a word read. -/
namespace Go.Proofs.Ytkhgpeejmbfmjaa
open Go.RowKit
set_option linter.unusedSimpArgs false
set_option linter.unusedVariables false
set_option maxRecDepth 100000
section
variable {w0 W : World} {X : Sx} {rb : Nat} {fgs : List Nat} {c : Nat} {s : Mc} {K : Nat → Prop} {fg : Nat}

set_option maxHeartbeats 4000000 in
theorem do_23 (h : RunAt w0 W X rb fgs c s K) (hf : Topf fgs fg) (a b p : Int) (ha : I64 a) (hp : I64 p) (hc : c < 25000) : Calls Try.prog 25 #[.pointer (some ⟨rb, 0, none⟩), .pointer (some ⟨fg, 0, none⟩), .agg #[.int .u8 23, .int .i64 a, .int .i64 b], .int .i64 p] W fun e W' => e = .returned (.int .i64 (s.do_ X.m X.l 23 a p).1) ∧ Left w0 W X rb c (s.do_ X.m X.l 23 a p).2 K W' := by
  obtain ⟨W1, t6, K1, hW1, ht6, R1, k6, B6, -⟩ := first_block h #[.int .u8 23, .int .i64 a, .int .i64 b] 46
  have HF := Lib.hid (And.intro hf hc)
  have HE := Lib.hid (And.intro hW1 ht6)
  have b0 := B6.c 0 _ rfl
  have b1 := B6.c 1 _ rfl
  have b2 := B6.c 2 _ rfl
  have lb := B6.l
  show Calls Try.prog 25 _ W fun e W' => e = .returned (.int .i64 ((isRes (atV (s.number.2.pop 3).2.hp (s.number.2.pop 3).1.2.1 s.number.1).1 (atV (s.number.2.pop 3).2.hp (s.number.2.pop 3).1.2.1 s.number.1).2 (s.number.2.pop 3).2).1)) ∧ Left w0 W X rb c ((isRes (atV (s.number.2.pop 3).2.hp (s.number.2.pop 3).1.2.1 s.number.1).1 (atV (s.number.2.pop 3).2.hp (s.number.2.pop 3).1.2.1 s.number.1).2 (s.number.2.pop 3).2).2) K W'
  have HP := Lib.hid (number_at R1.r hf)
  have HR := Lib.hid (And.intro R1 (And.intro k6 B6))
  generalize s.number = q0 at *
  obtain ⟨i, s1⟩ := q0
  dsimp only at *
  obtain ⟨⟨⟨u0, ref, u2⟩, s2⟩, hp2⟩ : ∃ p, s1.pop 3 = p := ⟨_, rfl⟩
  rw [hp2]
  dsimp only
  have HP2 := Lib.hid hp2
  obtain ⟨⟨n, q⟩, hat⟩ : ∃ r, atV s2.hp ref i = r := ⟨_, rfl⟩
  rw [hat]
  have HAT := Lib.hid hat
  dsimp only
  have hfld := fun w => field29 u0 ref u2 w
  clear h hf ha hp hc R1 k6 B6 hW1 ht6 hp2 hat
  go_enter Try.func25, Try.ntmps25
  go_wp2_with fail
  rw [HE.out.1, HE.out.2]
  clear HE
  refine wp_scope_jumps 0 (JumpAt (fun w' => q = false ∧ Left w0 W X rb c s2 K w')) (fun _ _ => 0) rfl ?_ ?_
  · go_wp2_with fail
    refine HP.out.mono ?_
    rintro e w3 ⟨rfl, hR⟩
    obtain ⟨R1, -, -⟩ := HR.out
    have R3 := R1.call hR
    have c6 := R3.r.c6
    have rl := R3.r.rbl
    have hkeep0 : Hid (w3.cell? ⟨rb, 6, none⟩ = some (.pointer (some ⟨X.gh, 0, none⟩))) := Lib.hid c6
    have HC : Hid (∀ V, Below w3.heap.size w3 V → Calls Try.prog 45 #[.pointer (some ⟨rb, 0, none⟩), .pointer (some ⟨fg, 0, none⟩), .int .u8 3] V fun e W' => e = .returned (.agg #[.int .u8 u0, .int .i64 ref, .int .i64 u2]) ∧ RunK w0 V X rb fgs c s2 (fun b => K1 b ∨ (w3.heap.size ≤ b ∧ b < V.heap.size)) W') := Lib.hid (by
      intro V hb
      have := pop_at (R3.under hb).r HF.out.1 3 (by omega)
      rw [HP2.out] at this
      exact this)
    have HR3 := Lib.hid R3
    have HCH : Hid (∀ V K4, Rk w0 W K V K4 X rb fgs c s2 → Calls Try.prog 44 #[.pointer (some ⟨X.gh, 0, none⟩), .int .i64 ref, .int .i64 i] V fun e W' => e = .returned (.tuple #[.int .i64 n, .bool q]) ∧ Below V.heap.size V W') := Lib.hid (by
      intro V K4 R4
      have := r_at R4.r ref i; rw [HAT.out] at this; exact this)
    have HNK : Hid (∀ V K4, Rk w0 W K V K4 X rb fgs c s2 → I64 n) := Lib.hid (by
      intro V K4 R4
      have := heap_words R4.r ref i; rw [HAT.out] at this; exact this)
    clear hR HR R1 R3 b0 b1 b2 lb
    go_upto_region 47 with fail
    go_cut [18, 19] (fun sa sb wx => sa = .int .i64 n ∧ sb = .bool q ∧ ∃ K', Rk w0 W K wx K' X rb fgs c s2)
    case first =>
      go_region_held3 (fun w' => w'.cell? ⟨rb, 6, none⟩ = some (.pointer (some ⟨X.gh, 0, none⟩)))
        ((first | (with_reducible exact hkeep2) | (with_reducible exact hkeep) | (with_reducible exact hkeep0.out) | (with_reducible exact cell_drew hkeep0.out) | fail))
        (first
          | (go_at_call 45; refine (HC.out _ (by with_reducible exact below_drew (Below.refl _ _))).mono ?_; rintro e w5 ⟨rfl, hR⟩
             have hR4 := (HR3.out.under (below_drew (Below.refl _ _))).call hR
             have hkeep : w5.cell? ⟨rb, 6, none⟩ = some (.pointer (some ⟨X.gh, 0, none⟩)) := hR4.r.c6
             have hl5 := hR4.r.rbl
             have HR5 := Lib.hid hR4
             clear hR hR4)
          | (go_at_call 44; refine (HCH.out _ _ HR5.out).mono ?_; rintro e w6 ⟨rfl, hb⟩
             have hkeep2 : w6.cell? ⟨rb, 6, none⟩ = some (.pointer (some ⟨X.gh, 0, none⟩)) := (hb.cell (p := ⟨rb, 6, none⟩) hl5).trans hkeep
             have HB6 := Lib.hid hb
             clear hb)
          | fail)
      all_goals go_wp2_with fail
      all_goals go_meet
      all_goals (refine ⟨rfl, rfl, ?_⟩; exact (HR5.out.below HB6.out).elim (fun K' h => ⟨K', h.1⟩))
    case rest =>
      obtain ⟨rfl, rfl, K5, R5⟩ := hcut
      have HN : Hid (I64 n) := Lib.hid (HNK.out _ _ R5)
      have HI := Lib.hid (fun w => int_any n w)
      unfold vagg vInt at HI
      dsimp only at HI
      have HR5 := Lib.hid R5
      clear R5 c6 rl HC hfld
      cases q with
      | true =>
        go_wp2_with fail
        refine (HI.out _).mono ?_
        rintro e w7 ⟨rfl, hb⟩
        obtain ⟨KA, RA, -, -⟩ := HR5.out.below hb
        have HCP := Lib.hid (push_at RA.r HF.out.1 (vInt n) (vint_ok HN.out))
        unfold vagg vInt at HCP
        dsimp only at HCP
        have HRA := Lib.hid RA
        clear hb RA HR5
        go_wp2_with fail
        refine HCP.out.mono ?_
        rintro e w8 ⟨rfl, hR⟩
        have HB := Lib.hid (left_of (HRA.out.call hR).done HF.out.2 HF.out.1)
        clear hR HRA
        go_wp2_with fail
        (try simp only [Exit.jump])
        go_ret
        exact ⟨rfl, HB.out⟩
      | false =>
        have HB := Lib.hid (left_of HR5.out.done HF.out.2 HF.out.1)
        go_wp2_with fail
        go_step3
        exact ⟨rfl, _, rfl, rfl, rfl, HB.out⟩
  · rintro a' w' ⟨T, rfl, hT, rfl, hl⟩
    have HB := Lib.hid hl
    clear hl
    go_wp2_with fail
    (try simp only [Exit.jump])
    exact bodyPost_ret (v := .int .i64 2) (by simp [results, Try.results25, go_sem, hT]) rfl ⟨rfl, HB.out⟩
end
#print axioms do_23
end Go.Proofs.Ytkhgpeejmbfmjaa
