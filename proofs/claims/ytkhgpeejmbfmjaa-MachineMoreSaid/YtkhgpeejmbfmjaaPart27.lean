/- Parts of the walk, joined. -/
import Derived.Test.YtkhgpeejmbfmjaaPart10
import Derived.Test.YtkhgpeejmbfmjaaPart11
import Derived.Test.YtkhgpeejmbfmjaaPart12
import Derived.Test.YtkhgpeejmbfmjaaPart13
import Derived.Test.YtkhgpeejmbfmjaaPart14
import Derived.Test.YtkhgpeejmbfmjaaPart15
import Derived.Test.YtkhgpeejmbfmjaaPart22
import Derived.Test.YtkhgpeejmbfmjaaPart16
import Derived.Test.YtkhgpeejmbfmjaaPart17
import Derived.Test.YtkhgpeejmbfmjaaPart18
import Derived.Test.YtkhgpeejmbfmjaaPart19
import Derived.Test.YtkhgpeejmbfmjaaPart20
import Derived.Test.YtkhgpeejmbfmjaaPart21
import Derived.Test.YtkhgpeejmbfmjaaPart23
import Derived.Test.YtkhgpeejmbfmjaaPart24
import Derived.Test.YtkhgpeejmbfmjaaPart25
import Derived.Test.YtkhgpeejmbfmjaaPart26
import Derived.OwnWalk
import Derived.Maps.AppendAt
import Derived.Deep.RegionHeld3
/- The run in memory: do. -/
namespace Go.Proofs.Ytkhgpeejmbfmjaa
open Go.RowKit
set_option linter.unusedSimpArgs false
set_option linter.unusedVariables false
set_option maxRecDepth 100000
section
variable {w0 W : World} {X : Sx} {rb : Nat} {fgs : List Nat} {c : Nat} {s : Mc} {K : Nat → Prop} {fg : Nat}

theorem do_at (h : RunAt w0 W X rb fgs c s K) (hf : Topf fgs fg) (op a b p : Int) (h0 : 0 ≤ op ∧ op ≤ 255) (ha : I64 a) (hp : I64 p) (hc : c < 25000) : Calls Try.prog 25 #[.pointer (some ⟨rb, 0, none⟩), .pointer (some ⟨fg, 0, none⟩), .agg #[.int .u8 op, .int .i64 a, .int .i64 b], .int .i64 p] W fun e W' => e = .returned (.int .i64 (s.do_ X.m X.l op a p).1) ∧ Left w0 W X rb c (s.do_ X.m X.l op a p).2 K W' := by
  by_cases hop : (25 < op ∧ op < 32) ∨ 32 < op
  · exact do_o h hf op a b p ha hp hc hop
  · have h27 : op = 0 ∨ op = 1 ∨ op = 2 ∨ op = 3 ∨ op = 4 ∨ op = 5 ∨ op = 6 ∨ op = 7 ∨ op = 8 ∨ op = 9 ∨ op = 10 ∨ op = 11 ∨ op = 12 ∨ op = 13 ∨ op = 14 ∨ op = 15 ∨ op = 16 ∨ op = 17 ∨ op = 18 ∨ op = 19 ∨ op = 20 ∨ op = 21 ∨ op = 22 ∨ op = 23 ∨ op = 24 ∨ op = 25 ∨ op = 32 := by omega
    rcases h27 with rfl | rfl | rfl | rfl | rfl | rfl | rfl | rfl | rfl | rfl | rfl | rfl | rfl | rfl | rfl | rfl | rfl | rfl | rfl | rfl | rfl | rfl | rfl | rfl | rfl | rfl | rfl
    · exact do_0 h hf a b p ha hp hc
    · exact do_1 h hf a b p ha hp hc
    · exact do_2 h hf a b p ha hp hc
    · exact do_3 h hf a b p ha hp hc
    · exact do_4 h hf a b p ha hp hc
    · exact do_5 h hf a b p ha hp hc
    · exact do_6 h hf a b p ha hp hc
    · exact do_7 h hf a b p ha hp hc
    · exact do_8 h hf a b p ha hp hc
    · exact do_9 h hf a b p ha hp hc
    · exact do_10 h hf a b p ha hp hc
    · exact do_11 h hf a b p ha hp hc
    · exact do_12 h hf a b p ha hp hc
    · exact do_13 h hf a b p ha hp hc
    · exact do_14 h hf a b p ha hp hc
    · exact do_15 h hf a b p ha hp hc
    · exact do_16 h hf a b p ha hp hc
    · exact do_17 h hf a b p ha hp hc
    · exact do_18 h hf a b p ha hp hc
    · exact do_19 h hf a b p ha hp hc
    · exact do_20 h hf a b p ha hp hc
    · exact do_21 h hf a b p ha hp hc
    · exact do_22 h hf a b p ha hp hc
    · exact do_23 h hf a b p ha hp hc
    · exact do_24 h hf a b p ha hp hc
    · exact do_25 h hf a b p ha hp hc
    · exact do_32 h hf a b p ha hp hc
theorem pushed_trap (s : Mc) (x : Int × Int × Bool) : (s.pushed x).1 = 0 ∨ (s.pushed x).1 = 3 := by
  unfold Mc.pushed
  split
  · exact .inl rfl
  · exact .inr rfl
theorem do_trap (m : Md) (l : Lm) (s : Mc) (op a p : Int) : I64 (s.do_ m l op a p).1 := by
  have z : ∀ x : Int, x = 0 ∨ x = 3 ∨ x = 2 ∨ x = 1 → I64 x := fun x hx => by unfold I64; omega
  have hb : ∀ op x y : Int, (binV op x y).2 = 0 ∨ (binV op x y).2 = 1 := by
    intro op x y
    have hd : ∀ x y : Int, (divV x y).2 = 0 ∨ (divV x y).2 = 1 := by
      intro x y
      unfold divV
      split
      · exact .inr rfl
      · split <;> exact .inl rfl
    unfold binV
    split
    · exact .inl rfl
    · split
      · exact .inl rfl
      · split
        · exact .inl rfl
        · split
          · exact hd _ _
          · split
            · exact hd _ _
            · split <;> exact .inl rfl
  unfold Mc.do_
  by_cases h : op = 0
  · rw [if_pos h]; exact z _ (.inl rfl)
  rw [if_neg h]
  by_cases h : 1 ≤ op ∧ op ≤ 5
  · rw [if_pos h]; exact z _ (.inl rfl)
  rw [if_neg h]
  by_cases h : 6 ≤ op ∧ op ≤ 8
  · rw [if_pos h]; exact z _ (.inl rfl)
  rw [if_neg h]
  by_cases h : 9 ≤ op ∧ op ≤ 15
  · rw [if_pos h]
    dsimp only
    split
    · have := hb op s.number.2.number.1 s.number.1
      exact z _ (by dsimp only; omega)
    · exact z _ (.inl rfl)
  rw [if_neg h]
  by_cases h : op = 16
  · rw [if_pos h]
    exact z _ (by rcases pushed_trap s.number.2.number.2 (if mayB s.number.2.number.1 s.number.1 then (s.number.2.number.1, s.number.1, true) else (0, 0, false)) with e | e; exact .inl e; exact .inr (.inl e))
  rw [if_neg h]
  by_cases h : op = 17
  · rw [if_pos h]; exact z _ (.inl rfl)
  rw [if_neg h]
  by_cases h : op = 18
  · rw [if_pos h]; exact z _ (.inl rfl)
  rw [if_neg h]
  by_cases h : op = 19
  · rw [if_pos h]
    exact z _ (by rcases pushed_trap s.pair.2.pair.2 (addV s.pair.2.pair.1.1 s.pair.2.pair.1.2 s.pair.1.1 s.pair.1.2) with e | e; exact .inl e; exact .inr (.inl e))
  rw [if_neg h]
  by_cases h : op = 20
  · rw [if_pos h]
    exact z _ (by rcases pushed_trap s.pair.2.pair.2 (mulV s.pair.2.pair.1.1 s.pair.2.pair.1.2 s.pair.1.1 s.pair.1.2) with e | e; exact .inl e; exact .inr (.inl e))
  rw [if_neg h]
  by_cases h : op = 21
  · rw [if_pos h]
    exact z _ (by rcases pushed_trap s.pair.2 (conjV s.pair.1.1 s.pair.1.2) with e | e; exact .inl e; exact .inr (.inl e))
  rw [if_neg h]
  by_cases h : op = 22
  · rw [if_pos h]
    dsimp only
    split
    · exact z _ (.inr (.inr (.inl rfl)))
    · exact z _ (.inl rfl)
  rw [if_neg h]
  by_cases h : op = 23
  · rw [if_pos h]
    dsimp only
    split
    · exact z _ (.inl rfl)
    · exact z _ (.inr (.inr (.inl rfl)))
  rw [if_neg h]
  by_cases h : op = 24
  · rw [if_pos h]
    dsimp only
    split
    · split
      · exact z _ (.inl rfl)
      · exact z _ (.inr (.inr (.inl rfl)))
    · exact z _ (.inl rfl)
  rw [if_neg h]
  by_cases h : op = 25
  · rw [if_pos h]
    dsimp only
    split
    · exact z _ (.inl rfl)
    · exact z _ (.inr (.inr (.inl rfl)))
  rw [if_neg h]
  by_cases h : op = 32
  · rw [if_pos h]; exact wrap64_ok _
  rw [if_neg h]
  exact z _ (.inl rfl)
end
#print axioms do_at
#print axioms pushed_trap
#print axioms do_trap
end Go.Proofs.Ytkhgpeejmbfmjaa
/- The run in memory: next. -/
namespace Go.Proofs.Ytkhgpeejmbfmjaa
open Go.RowKit
set_option linter.unusedSimpArgs false
set_option linter.unusedVariables false
set_option maxRecDepth 100000
section
variable {w0 W : World} {X : Sx} {rb : Nat} {fgs : List Nat} {c : Nat} {s : Mc} {K : Nat → Prop} {fg : Nat}

/-- What a step comes to, behind its instruction. -/
def nextRes (r : Int × Mc) : Mc := if r.1 ≠ 0 ∧ r.2.e = 0 then { r.2 with out := (r.1, zv), over := true } else r.2
theorem nextRes_no {tr : Int} {s : Mc} (h : tr = 0 ∨ s.e ≠ 0) : nextRes (tr, s) = s := by
  unfold nextRes
  rw [if_neg (by rintro ⟨h1, h2⟩; rcases h with h | h; exact h1 h; exact h h2)]
theorem nextRes_yes {tr : Int} {s : Mc} (h : tr ≠ 0) (he : s.e = 0) : nextRes (tr, s) = { s with out := (tr, zv), over := true } := by
  unfold nextRes
  rw [if_pos ⟨h, he⟩]
theorem next_eq (m : Md) (l : Lm) (s : Mc) (h1 : ¬ l.stack < s.size) (h2 : s.fu ≠ l.fuel) {code : List (Int × Int)} (hc : (m.at (s.ms.getLast?.getD 0)).code = code) :
    s.next m l = if inB s.top.place (code.length - 1) then nextRes ((Mc.upd { s with fu := s.fu + 1, st := max s.st s.size } (goF (Mc.top { s with fu := s.fu + 1, st := max s.st s.size }) (wrap64 (s.top.place + 1)))).do_ m l (code[s.top.place.toNat]?.getD (0, 0)).1 (code[s.top.place.toNat]?.getD (0, 0)).2 s.top.place) else { s with fu := s.fu + 1, st := max s.st s.size, e := 40 } := by
  unfold Mc.next
  rw [if_neg h1, if_neg h2]
  dsimp only
  rw [hc]
  rfl
theorem size_le (h : RunAt w0 W X rb fgs c s K) : 0 ≤ s.size ∧ s.size ≤ 69904 := by
  have := psum_le h s.frs.length (Nat.le_refl _)
  have e : s.size = psum s.frs s.frs.length := by unfold Mc.size psum; rw [List.take_of_length_le (Nat.le_refl _)]
  have := h.ok.fl
  rw [e]
  omega
theorem next_stack (h : RunAt w0 W X rb fgs c s K) (hf : Topf fgs fg) (hc : c < 25000) (h1 : X.l.stack < s.size) : Calls Try.prog 14 #[.pointer (some ⟨rb, 0, none⟩)] W fun e W' => e = .returned (.tuple #[]) ∧ Left w0 W X rb c (s.next X.m X.l) K W' := by
  have e : s.next X.m X.l = { s with e := 101 } := by unfold Mc.next; rw [if_pos h1]
  rw [e]
  have HP := Lib.hid (size_run h)
  have c9 := h.c9
  have c14 := h.c14
  have rl := h.rbl
  have rf := h.rf 14
  have hd : decide (X.l.stack < s.size) = true := decide_eq_true h1
  have HR := Lib.hid h
  have HF := Lib.hid (And.intro hf hc)
  generalize s.size = n at *
  clear h hf hc e
  go_enter Try.func14, Try.ntmps14
  go_wp2_with fail
  refine HP.out.mono ?_
  rintro e w2 ⟨rfl, k, rfl⟩
  have R2 := HR.out.drewN k
  have HB := Lib.hid (left_of ((HR.out.rk0.drewN k).call (R2.setE 101 (by unfold I64; omega))).done HF.out.2 HF.out.1)
  clear R2 HR
  go_wp2_with fail
  exact bodyPost_ret (v := .tuple #[]) (by simp [results, Try.results14, go_sem]) rfl ⟨rfl, HB.out⟩

theorem next_fuel (h : RunAt w0 W X rb fgs c s K) (hf : Topf fgs fg) (hc : c < 25000) (h1 : ¬ X.l.stack < s.size) (h2 : s.fu = X.l.fuel) : Calls Try.prog 14 #[.pointer (some ⟨rb, 0, none⟩)] W fun e W' => e = .returned (.tuple #[]) ∧ Left w0 W X rb c (s.next X.m X.l) K W' := by
  have e : s.next X.m X.l = { s with e := 170 } := by unfold Mc.next; rw [if_neg h1, if_pos h2]
  rw [e]
  have HP := Lib.hid (size_run h)
  have c8 := h.c8
  have c9 := h.c9
  have c11 := h.c11
  rw [h2] at c11
  have c14 := h.c14
  have rl := h.rbl
  have rf := h.rf 14
  have hd : decide (X.l.stack < s.size) = false := decide_eq_false h1
  have HR := Lib.hid h
  have HF := Lib.hid (And.intro hf hc)
  generalize s.size = n at *
  have h3 : n ≤ X.l.stack := by omega
  clear h hf hc e h1 h2
  go_enter Try.func14, Try.ntmps14
  go_wp2_with fail
  refine HP.out.mono ?_
  rintro e w2 ⟨rfl, k, rfl⟩
  go_wp2_with fail
  go_quiet (fail)
  rename_i nq
  have R2 := HR.out.drewN (k + nq)
  have HB := Lib.hid (left_of ((HR.out.rk0.drewN (k + nq)).call (R2.setE 170 (by unfold I64; omega))).done HF.out.2 HF.out.1)
  clear R2 HR
  go_wp2_with fail
  exact bodyPost_ret (v := .tuple #[]) (by simp [results, Try.results14, go_sem]) rfl ⟨rfl, HB.out⟩

set_option maxHeartbeats 4000000 in
theorem next_go (h : RunAt w0 W X rb fgs c s K) (hf : Topf fgs fg) (hc : c < 25000) (h1 : ¬ X.l.stack < s.size) (h2 : s.fu ≠ X.l.fuel) (hfu : 0 ≤ s.fu ∧ s.fu ≤ 1048576) : Calls Try.prog 14 #[.pointer (some ⟨rb, 0, none⟩)] W fun e W' => e = .returned (.tuple #[]) ∧ Left w0 W X rb c (s.next X.m X.l) K W' := by
  obtain ⟨l, hl⟩ := hf
  have hf : Topf fgs fg := ⟨l, hl⟩
  obtain ⟨q, hq⟩ : ∃ q, l.length = q := ⟨_, rfl⟩
  have hfn : fgs.length = q + 1 := by rw [hl]; simp [hq]
  obtain ⟨i, x, hi1, hi2, hi3, hi4, -, -⟩ := h.mtop hfn
  obtain ⟨s1, hs1⟩ : ∃ t : Mc, { s with fu := s.fu + 1, st := max s.st s.size } = t := ⟨_, rfl⟩
  rw [next_eq X.m X.l s h1 h2 (show (X.m.at (s.ms.getLast?.getD 0)).code = x.code by rw [hi1, hi2]), hs1]
  have hpl : s1.top.place = s.top.place := by rw [← hs1]; rfl
  rw [← hpl]
  have hE40 : ({ s with fu := s.fu + 1, st := max s.st s.size, e := 40 } : Mc) = { s1 with e := 40 } := by rw [← hs1]
  rw [hE40]
  obtain ⟨g, o, hmm, hgl, Aa, na, ca, Al, nl, cl, Ac, nc, cc, rd, y1, y2, y3, -, -, -, -, -, -, -, m7, -, -, hins, -, -, hnc, -⟩ := h.md0.mts i hi4
  have hxi : X.m.mts[i] = x := by rw [← hi2, Md.at_eq hi4]
  rw [hxi] at hins
  have hsz := size_le h
  have HP := Lib.hid (size_run h)
  have hff := h.ok.fl
  have hfr := h.frl
  have hfx : fgs[q]? = some fg := by rw [hl, List.getElem?_append_right (by omega), hq, Nat.sub_self]; rfl
  have c8 := h.c8
  have c9 := h.c9
  have c11 := h.c11
  have c12 := h.c12
  have rl := h.rbl
  have rf11 := h.rf 11
  have rf12 := h.rf 12
  have hnm := h.md.nm
  have hq256 : (q : Int) ≤ 256 := by omega
  have hq0 : 0 ≤ (q : Int) := by omega
  have hd : decide (X.l.stack < s.size) = false := decide_eq_false h1
  have h3 : s.size ≤ X.l.stack := by omega
  have hd2 : (s.fu == X.l.fuel) = false := by rw [beq_eq_false_iff_ne]; exact h2
  have wf : IntKind.i64.wrap (s.fu + 1) = s.fu + 1 := IntWalk.i64_in _ (by omega)
  have HR := Lib.hid h
  have HF := Lib.hid (And.intro hf (And.intro hc (And.intro hfx hfn)))
  have HX := Lib.hid (And.intro hi1 (And.intro hi2 (And.intro hmm (And.intro hgl (And.intro m7 hins)))))
  obtain ⟨n, hn⟩ : ∃ n, s.size = n := ⟨_, rfl⟩
  rw [hn] at HP hsz hd h3 hs1
  have HS1 := Lib.hid hs1
  have hcl : x.code.length = nc := hins.1
  rw [hcl]
  have HCL := Lib.hid (And.intro hcl hnc)
  obtain ⟨p, hp⟩ : ∃ p, s1.top.place = p := ⟨_, rfl⟩
  rw [hp]
  have HPL := Lib.hid hp
  cases hin : inB p ((nc : Int) - 1) with
  | false =>
    rw [if_neg (by decide)]
    have HIN : Hid (∀ V, Calls Try.prog 17 #[.int .i64 p, .int .i64 ((nc : Int) - 1)] V fun e V' => e = .returned (.bool false) ∧ V = V') := Lib.hid (fun V => by rw [← hin]; exact (in_any _ _ _).mono (fun _ _ h => ⟨h.1, h.2.symm⟩))
    clear h hf hc h1 h2 hl hq hfn hi1 hi2 hi4 hmm hgl m7 hins hxi hff hfr hfx hn hs1 hpl hE40 hcl hnc hp hin
    go_enter Try.func14, Try.ntmps14
    go_wp2_with fail
    refine HP.out.mono ?_
    rintro e w2 ⟨rfl, j, rfl⟩
    go_wp2_with fail
    go_quiet (fail)
    rename_i nq
    go_upto_region 7 with fail
    have hst : (if s.st < n then n else s.st) = max s.st n := by split <;> omega
    rw [hst]
    clear hst
    have R3 : Rk w0 W K (((W.drewN (j + nq)).setCell ⟨rb, 11, none⟩ (.int .i64 (s.fu + 1))).setCell ⟨rb, 12, none⟩ (.int .i64 (max s.st n))) K X rb fgs c s1 := (HR.out.rk0.drewN (j + nq)).call ((HR.out.drewN (j + nq)).cells (s' := s1) (((Touch.refl (fun b => b = rb) _).setCell _ _ (fun _ => rfl)).setCell _ _ (fun _ => rfl))
      (fun sf sm gh sg b => by rw [← HS1.out]; exact (b.set (j := 11) rfl (.int .i64 (s.fu + 1))).set (j := 12) rfl (.int .i64 (max s.st n))) (by rw [← HS1.out]) (by rw [← HS1.out]) (by rw [← HS1.out]) (by rw [← HS1.out]) (by rw [← HS1.out]; exact HR.out.ok.e) (by rw [← HS1.out]; exact HR.out.ok.out))
    obtain ⟨w3, hw3⟩ : ∃ V, (((W.drewN (j + nq)).setCell ⟨rb, 11, none⟩ (.int .i64 (s.fu + 1))).setCell ⟨rb, 12, none⟩ (.int .i64 (max s.st n))) = V := ⟨_, rfl⟩
    rw [hw3] at R3
    rw [hw3]
    clear hw3 c8 c9 c11 c12 rl rf11 rf12 wf hd hd2 h3
    obtain ⟨Af, cf, c4, hrow⟩ := R3.r.frow
    have hfl4 : q < fgs.length := by rw [HF.out.2.2.2]; omega
    obtain ⟨ga, rfl, gal, hcf, gac⟩ := hrow q hfl4
    have hfx := HF.out.2.2.1
    rw [List.getElem?_eq_getElem hfl4] at hfx
    rw [Option.some.inj hfx] at gac
    rw [HF.out.2.2.2] at c4
    obtain ⟨i', x', hi1, hi2, hi3', hi4, ⟨gm, cm, c5, gml, gmc⟩, -⟩ := R3.r.mtop HF.out.2.2.2
    have hii : i' = i := by rw [← hi1, ← HX.out.1, ← HS1.out]
    rw [hii] at gmc
    have c2 := R3.r.c2
    rw [HX.out.2.2.1] at c2
    have n7 := (R3.r.bw.cell (p := ⟨g, _, none⟩) HX.out.2.2.2.1).trans HX.out.2.2.2.2.1
    have gl : g < w3.heap.size := Nat.lt_of_lt_of_le HX.out.2.2.2.1 R3.r.bw.size
    have rl3 := R3.r.rbl
    have wn1 : IntKind.i64.wrap ((q : Int) + 1 - 1) = (q : Int) := by rw [show (q : Int) + 1 - 1 = q by omega]; exact IntWalk.i64_in _ (by omega)
    have wn2 : IntKind.i64.wrap (((q + 1 : Nat) : Int) - 1) = (q : Int) := by rw [show ((q + 1 : Nat) : Int) - 1 = q by omega]; exact IntWalk.i64_in _ (by omega)
    have hqn : (q : Int) < ((q + 1 : Nat) : Int) := by omega
    have hqn2 : (q : Int) < (q : Int) + 1 := by omega
    have HR3 := Lib.hid R3
    have hnc250 := HCL.out.2
    clear R3 hrow hfl4 hfx hi1 hi2 hi3' hi4 hii hcf HP HR
    go_quiet (fail)
    rename_i nq2
    go_upto_region 8 with fail
    go_quiet (fail)
    rename_i nq3
    have HPP : Hid (∀ m, Calls Try.prog 23 #[.pointer (some ⟨fg, 0, none⟩)] (w3.drewN m) fun e W' => e = .returned (.int .i64 p) ∧ (w3.drewN m) = W') := Lib.hid (fun m => (r_place (HR3.out.r.drewN m) HF.out.1).mono (fun e w' h => ⟨by rw [h.1, HPL.out], h.2.symm⟩))
    clear wn1 wn2 hqn hqn2 c4 c5 c2 n7 gac gmc gl gal gml
    go_wp2_with fail
    refine (HPP.out _).mono ?_
    rintro e w5 ⟨rfl, hw5⟩
    have R4 : Rk w0 W K w5 K X rb fgs c s1 := by rw [← hw5]; exact HR3.out.drewN _
    clear hw5 HR3
    have wn3 : IntKind.i64.wrap ((nc : Int) - 1) = (nc : Int) - 1 := IntWalk.i64_in _ (by omega)
    go_wp2_with fail
    refine (HIN.out _).mono ?_
    rintro e w6 ⟨rfl, rfl⟩
    have c14 := R4.r.c14
    have rl4 := R4.r.rbl
    have rf4 := R4.r.rf 14
    have HB := Lib.hid (left_of (R4.call (R4.r.setE 40 (by unfold I64; omega))).done HF.out.2.1 HF.out.1)
    clear R4
    go_wp2_with fail
    exact bodyPost_ret (v := .tuple #[]) (by simp [results, Try.results14, go_sem]) rfl ⟨rfl, HB.out⟩
  | true =>
    rw [if_pos rfl]
    obtain ⟨k, rfl, hk⟩ := inB_nat hin
    have hk0 : 0 ≤ (k : Int) := Int.natCast_nonneg k
    have hkn : (k : Int) < (nc : Int) := Int.ofNat_lt.2 hk
    have hk250 : (k : Int) ≤ 250 := by have h1 : k ≤ 250 := Nat.le_trans (Nat.le_of_lt hk) hnc; exact Int.ofNat_le.2 h1
    have hk2 : k < x.code.length := by rw [hcl]; exact hk
    have HKI : Hid (I64 (k : Int)) := Lib.hid ⟨by omega, by omega⟩
    have wk : wrap64 ((k : Int) + 1) = (k : Int) + 1 := by unfold wrap64; omega
    have HIN : Hid (∀ V, Calls Try.prog 17 #[.int .i64 (k : Int), .int .i64 ((nc : Int) - 1)] V fun e V' => e = .returned (.bool true) ∧ V = V') := Lib.hid (fun V => by rw [← hin]; exact (in_any _ _ _).mono (fun _ _ h => ⟨h.1, h.2.symm⟩))
    obtain ⟨gI, oI, yb, rfl, hgI, hopI, haI, i0, i1, i2⟩ := hins.2 k hk2
    have hge : (x.code[((k : Int)).toNat]?.getD (0, 0)) = x.code[k] := by rw [Int.toNat_natCast, List.getElem?_eq_getElem hk2, Option.getD_some]
    rw [hge, wk]
    generalize x.code[k] = oa at *
    obtain ⟨op, a⟩ := oa
    dsimp only at hopI haI i0 i1 ⊢
    obtain ⟨⟨tr, s3⟩, hdo⟩ : ∃ r, Mc.do_ X.m X.l (s1.upd (goF s1.top ((k : Int) + 1))) op a (k : Int) = r := ⟨_, rfl⟩
    rw [hdo]
    have HDO := Lib.hid hdo
    have HII := Lib.hid (And.intro True.intro (And.intro hgI (And.intro hopI (And.intro haI (And.intro i0 (And.intro i1 i2))))))
    have HTR : Hid (I64 tr) := Lib.hid (by have := do_trap X.m X.l (s1.upd (goF s1.top ((k : Int) + 1))) op a (k : Int); rw [hdo] at this; exact this)
    clear wk hge hdo hgI hopI haI i0 i1 i2 hk hk2
    clear h hf hc h1 h2 hl hq hfn hi1 hi2 hi4 hmm hgl m7 hins hxi hff hfr hfx hn hs1 hpl hE40 hcl hnc hp hin
    go_enter Try.func14, Try.ntmps14
    go_wp2_with fail
    refine HP.out.mono ?_
    rintro e w2 ⟨rfl, j, rfl⟩
    go_wp2_with fail
    go_quiet (fail)
    rename_i nq
    go_upto_region 7 with fail
    have hst : (if s.st < n then n else s.st) = max s.st n := by split <;> omega
    rw [hst]
    clear hst
    have R3 : Rk w0 W K (((W.drewN (j + nq)).setCell ⟨rb, 11, none⟩ (.int .i64 (s.fu + 1))).setCell ⟨rb, 12, none⟩ (.int .i64 (max s.st n))) K X rb fgs c s1 := (HR.out.rk0.drewN (j + nq)).call ((HR.out.drewN (j + nq)).cells (s' := s1) (((Touch.refl (fun b => b = rb) _).setCell _ _ (fun _ => rfl)).setCell _ _ (fun _ => rfl))
      (fun sf sm gh sg b => by rw [← HS1.out]; exact (b.set (j := 11) rfl (.int .i64 (s.fu + 1))).set (j := 12) rfl (.int .i64 (max s.st n))) (by rw [← HS1.out]) (by rw [← HS1.out]) (by rw [← HS1.out]) (by rw [← HS1.out]) (by rw [← HS1.out]; exact HR.out.ok.e) (by rw [← HS1.out]; exact HR.out.ok.out))
    obtain ⟨w3, hw3⟩ : ∃ V, (((W.drewN (j + nq)).setCell ⟨rb, 11, none⟩ (.int .i64 (s.fu + 1))).setCell ⟨rb, 12, none⟩ (.int .i64 (max s.st n))) = V := ⟨_, rfl⟩
    rw [hw3] at R3
    rw [hw3]
    clear hw3 c8 c9 c11 c12 rl rf11 rf12 wf hd hd2 h3
    obtain ⟨Af, cf, c4, hrow⟩ := R3.r.frow
    have hfl4 : q < fgs.length := by rw [HF.out.2.2.2]; omega
    obtain ⟨ga, rfl, gal, hcf, gac⟩ := hrow q hfl4
    have hfx := HF.out.2.2.1
    rw [List.getElem?_eq_getElem hfl4] at hfx
    rw [Option.some.inj hfx] at gac
    rw [HF.out.2.2.2] at c4
    obtain ⟨i', x', hi1, hi2, hi3', hi4, ⟨gm, cm, c5, gml, gmc⟩, -⟩ := R3.r.mtop HF.out.2.2.2
    have hii : i' = i := by rw [← hi1, ← HX.out.1, ← HS1.out]
    rw [hii] at gmc
    have c2 := R3.r.c2
    rw [HX.out.2.2.1] at c2
    have n7 := (R3.r.bw.cell (p := ⟨g, _, none⟩) HX.out.2.2.2.1).trans HX.out.2.2.2.2.1
    have gl : g < w3.heap.size := Nat.lt_of_lt_of_le HX.out.2.2.2.1 R3.r.bw.size
    have rl3 := R3.r.rbl
    have wn1 : IntKind.i64.wrap ((q : Int) + 1 - 1) = (q : Int) := by rw [show (q : Int) + 1 - 1 = q by omega]; exact IntWalk.i64_in _ (by omega)
    have wn2 : IntKind.i64.wrap (((q + 1 : Nat) : Int) - 1) = (q : Int) := by rw [show ((q + 1 : Nat) : Int) - 1 = q by omega]; exact IntWalk.i64_in _ (by omega)
    have hqn : (q : Int) < ((q + 1 : Nat) : Int) := by omega
    have hqn2 : (q : Int) < (q : Int) + 1 := by omega
    have HR3 := Lib.hid R3
    have hnc250 := HCL.out.2
    clear R3 hrow hfl4 hfx hi1 hi2 hi3' hi4 hii hcf HP HR
    go_quiet (fail)
    rename_i nq2
    go_upto_region 8 with fail
    go_quiet (fail)
    rename_i nq3
    have HPP : Hid (∀ m, Calls Try.prog 23 #[.pointer (some ⟨fg, 0, none⟩)] (w3.drewN m) fun e W' => e = .returned (.int .i64 (k : Int)) ∧ (w3.drewN m) = W') := Lib.hid (fun m => (r_place (HR3.out.r.drewN m) HF.out.1).mono (fun e w' h => ⟨by rw [h.1, HPL.out], h.2.symm⟩))
    clear wn1 wn2 hqn hqn2 c4 c5 c2 n7 gac gmc gl gal gml
    go_wp2_with fail
    refine (HPP.out _).mono ?_
    rintro e w5 ⟨rfl, hw5⟩
    have R4 : Rk w0 W K w5 K X rb fgs c s1 := by rw [← hw5]; exact HR3.out.drewN _
    clear hw5 HR3
    have wn3 : IntKind.i64.wrap ((nc : Int) - 1) = (nc : Int) - 1 := IntWalk.i64_in _ (by omega)
    go_wp2_with fail
    refine (HIN.out _).mono ?_
    rintro e w6 ⟨rfl, rfl⟩
    have HG := Lib.hid (r_go R4.r HF.out.1 ((k : Int) + 1))
    have HR4 := Lib.hid R4
    clear R4
    go_wp2_with fail
    refine HG.out.mono ?_
    rintro e w6 ⟨rfl, hR⟩
    have R6 := HR4.out.call hR
    obtain ⟨-, hgI, hopI, haI, i0, i1, i2⟩ := HII.out
    have j0 := (R6.r.bw.cell (p := ⟨gI, _, none⟩) hgI).trans i0
    have j1 := (R6.r.bw.cell (p := ⟨gI, _, none⟩) hgI).trans i1
    have j2 := (R6.r.bw.cell (p := ⟨gI, _, none⟩) hgI).trans i2
    have jl : gI < w6.heap.size := Nat.lt_of_lt_of_le hgI R6.r.bw.size
    have HC := Lib.hid (do_at R6.r HF.out.1 op a yb (k : Int) hopI haI HKI.out HF.out.2.1)
    rw [HDO.out] at HC
    dsimp only at HC
    have HR6 := Lib.hid R6
    clear hgI hopI haI i0 i1 i2 hR R6 HR4
    go_wp2_with fail
    refine HC.out.mono ?_
    rintro e w7 ⟨rfl, fgs', hR, hlv⟩
    have R7 := HR6.out.call hR
    have c14 := R7.r.c14
    have rl7 := R7.r.rbl
    have HR7 := Lib.hid (And.intro R7 hlv)
    clear hR R7 HR6 hlv j0 j1 j2 jl
    by_cases htr : tr = 0
    · have HB : Hid (Left w0 W X rb c (nextRes (tr, s3)) K w7) := Lib.hid (by rw [nextRes_no (.inl htr)]; exact ⟨fgs', HR7.out.1.done, HR7.out.2⟩)
      have hq1 : (tr != 0) = false := by simp [htr]
      clear htr
      go_wp2_with fail
      go_end0
      exact ⟨rfl, HB.out⟩
    · have hq1 : (tr != 0) = true := by simpa using htr
      by_cases he : s3.e = 0
      · have d15 := HR7.out.1.r.c15
        have d16 := HR7.out.1.r.c16
        have d17 := HR7.out.1.r.c17
        have d18 := HR7.out.1.r.c18
        have d19 := HR7.out.1.r.c19
        have ff := HR7.out.1.r.rf
        have HB : Hid (Left w0 W X rb c (nextRes (tr, s3)) K (((((w7.setCell ⟨rb, 16, none⟩ (.int .i64 tr)).setCell ⟨rb, 17, none⟩ (.int .u8 0)).setCell ⟨rb, 18, none⟩ (.int .i64 0)).setCell ⟨rb, 19, none⟩ (.int .i64 0)).setCell ⟨rb, 15, none⟩ (.bool true))) := Lib.hid (by
          rw [nextRes_yes htr he]
          refine ⟨fgs', (HR7.out.1.call (HR7.out.1.r.cells (s' := { s3 with out := (tr, zv), over := true }) ((((((Touch.refl (fun b => b = rb) w7).setCell _ _ (fun _ => rfl)).setCell _ _ (fun _ => rfl)).setCell _ _ (fun _ => rfl)).setCell _ _ (fun _ => rfl)).setCell _ _ (fun _ => rfl))
            (fun sf sm gh sg b => ((((b.set (j := 16) rfl (.int .i64 tr)).set (j := 17) rfl (.int .u8 0)).set (j := 18) rfl (.int .i64 0)).set (j := 19) rfl (.int .i64 0)).set (j := 15) rfl (.bool true)) rfl rfl rfl rfl HR7.out.1.r.ok.e ⟨HTR.out, zv_ok⟩)).done, .inl rfl⟩)
        rw [he] at c14
        clear htr he
        go_wp2_with fail
        go_end0
        exact ⟨rfl, HB.out⟩
      · have HB : Hid (Left w0 W X rb c (nextRes (tr, s3)) K w7) := Lib.hid (by rw [nextRes_no (.inr he)]; exact ⟨fgs', HR7.out.1.done, HR7.out.2⟩)
        have hq2 : (s3.e == 0) = false := by rw [beq_eq_false_iff_ne]; exact he
        clear htr he
        go_wp2_with fail
        go_end0
        exact ⟨rfl, HB.out⟩
end
#print axioms next_stack
#print axioms next_fuel
#print axioms next_go
end Go.Proofs.Ytkhgpeejmbfmjaa
/- The run begins: clones, kinds. -/
namespace Go.Proofs.Ytkhgpeejmbfmjaa
open Go.RowKit
set_option linter.unusedSimpArgs false
set_option linter.unusedVariables false
set_option maxRecDepth 100000
section
variable {w0 W : World} {X : Sx} {rb : Nat} {fgs : List Nat} {c : Nat} {s : Mc} {K : Nat → Prop} {fg : Nat}

/-- A slice against nil. -/
theorem an_equalIn_nil {P : Program} (w : World) (d : Nat) (t e : TypeId) (a : Option Addr) (l c : Nat) (h : P.underlying t = some (.slice e)) : (Op.equalIn (d + 1) t (.slice a l c) (.slice none 0 0)).run P w = .ok a.isNone w := by
  cases a <;> simp [Op.equalIn, run_underlying h]
theorem an_equal_nil {P : Program} (w : World) (t e : TypeId) (a : Option Addr) (l c : Nat) (h : P.underlying t = some (.slice e)) : (Op.equal t (.slice a l c) (.slice none 0 0)).run P w = .ok a.isNone w := an_equalIn_nil w _ t e a l c h
theorem an_eql_nil (w : World) (t e : TypeId) (a : Option Addr) (l c : Nat) (h : Try.prog.underlying t = some (.slice e)) : (binOp .eql t (.slice a l c) (.slice none 0 0)).run Try.prog w = .ok (.bool a.isNone) w := by
  simp [binOp, an_equal_nil w t e a l c h]
theorem add_at (b o j : Nat) : (⟨b, o, none⟩ : Addr).add j = ⟨b, o + j, none⟩ := by unfold Addr.add; split <;> simp_all
theorem vs_cells {w : World} {g o n : Nat} {vs : List V} (h : VsAt w (some ⟨g, o, none⟩) n vs) : ∀ j u, (vcs vs)[j]? = some u → w.cell? ⟨g, o + j, none⟩ = some u := by
  intro j u hj
  obtain ⟨hl, -⟩ := List.getElem?_eq_some_iff.1 hj
  rw [vcs_length] at hl
  have hi : j / 3 < vs.length := by omega
  obtain ⟨g', o', e, hg, hv, c0, c1, c2⟩ := h.2 (j / 3) hi
  injection e with e
  injection e with e1 e2
  subst e1 e2
  obtain ⟨a0, a1, a2⟩ := vcs_get vs (j / 3) hi
  have h3 : j % 3 = 0 ∨ j % 3 = 1 ∨ j % 3 = 2 := by omega
  rcases h3 with h3 | h3 | h3
  · have e : j = j / 3 * 3 := by omega
    rw [e] at hj ⊢
    rw [a0] at hj
    rw [← Option.some.inj hj]
    exact c0
  · have e : j = j / 3 * 3 + 1 := by omega
    rw [e] at hj ⊢
    rw [a1] at hj
    rw [← Option.some.inj hj, ← Nat.add_assoc]
    exact c1
  · have e : j = j / 3 * 3 + 2 := by omega
    rw [e] at hj ⊢
    rw [a2] at hj
    rw [← Option.some.inj hj, ← Nat.add_assoc]
    exact c2
theorem vcs_one (vs : List V) : ∀ u ∈ vcs vs, u.oneCell' = true := by
  intro u hu
  unfold vcs at hu
  obtain ⟨v, -, hv⟩ := List.mem_flatMap.1 hu
  unfold vc at hv
  simp only [List.mem_cons, List.not_mem_nil, or_false] at hv
  rcases hv with rfl | rfl | rfl <;> rfl
/-- A clone. -/
def CloneV (w : World) (n : Nat) (vs : List V) (e : Ending) (w' : World) : Prop :=
  ∃ A' c', e = .returned (.slice A' n c') ∧ Below w.heap.size w w' ∧ (vs = [] ∨ ∃ g, A' = some ⟨g, 0, none⟩ ∧ w.heap.size ≤ g ∧ Blk w' g (vcs vs))
set_option maxHeartbeats 1000000 in
theorem clone_any (A : Option Addr) (n c : Nat) (vs : List V) (w : World) (hv : VsAt w A n vs) (hn : n ≤ 100000) : Calls Try.prog 16 #[.slice A n c] w fun e w' => CloneV w n vs e w' := by
  obtain ⟨i0, hi, hz0, hz1, hz2⟩ := fr_parts info37
  have hvl := hv.1
  match A with
  | none =>
    have h0 : n = 0 := by
      rcases Nat.eq_zero_or_pos n with h | h
      · exact h
      · obtain ⟨g, o, e, -⟩ := hv.2 0 (by omega)
        cases e
    subst h0
    obtain rfl : vs = [] := List.length_eq_zero_iff.1 hvl
    clear hv hvl hn
    have hq := fun W => an_eql_nil W 22 29 none 0 c Try.underlying22
    go_enter Try.func16, Try.ntmps16
    go_wp2_with fail
    go_ret
    exact ⟨none, 0, rfl, Below.refl _ _, .inl rfl⟩
  | some ⟨b, off, sp⟩ =>
    have hsp : 0 < n → sp = none := fun h => by
      obtain ⟨b', o', e, -⟩ := hv.2 0 (by omega)
      injection e with e; injection e
    have hsrc : ∀ (W : World), Below w.heap.size w W → ∀ (j : Nat) (u : Value), (vcs vs)[j]? = some u → W.cell? ((⟨b, off, sp⟩ : Addr).add j) = some u := by
      intro W hW j u hj
      obtain ⟨hjl, -⟩ := List.getElem?_eq_some_iff.1 hj
      rw [vcs_length] at hjl
      obtain rfl := hsp (by omega)
      rw [add_at]
      exact vs_cells (hv.below hW) j u hj
    have HSRC := Lib.hid hsrc
    have HL : Hid ((vcs vs).length = n * 3) := Lib.hid (by rw [vcs_length, hvl])
    have HONE := Lib.hid (vcs_one vs)
    have hown0 : (w.alloc (.cells #[] 29)).ownsRow w.heap.size 29 3 (.slice (some ⟨w.heap.size, 0, none⟩) 0 0) 0 [] := by
      refine ⟨rfl, .inr ⟨w.heap.size, 0, #[], rfl, Nat.le_refl _, ?_, Nat.le_refl _, by decide, rfl, rfl⟩⟩
      rw [World.alloc_heap_new]
    have HOWN := Lib.hid hown0
    have HVL := Lib.hid hvl
    clear hv hsp hsrc hown0 hvl
    have hq := fun W => an_eql_nil W 22 29 (some ⟨b, off, sp⟩) n c Try.underlying22
    go_enter Try.func16, Try.ntmps16
    go_wp2_with (at_builtin; refine wpList_append_own _ rfl _ _ 22 rfl w.heap.size 29 i0 (.agg #[.int .u8 0, .int .i64 0, .int .i64 0]) 3 24 Try.underlying22 hi hz0 hz1 hz2 rfl (by decide) _ _ _ rfl HOWN.out ⟨b, off, sp⟩ n c (vcs vs) rfl HL.out (HSRC.out _ (by go_grown)) HONE.out (by unfold maxLen; omega) (by omega) (by simp) ?_; intro v' w2 hown' hgrow hnil)
    go_ret
    have hB : Below w.heap.size w w2 := ((Below.refl _ w).alloc (Nat.le_refl _) _).grown hgrow (by simp) (fun k hk => by cases hk; exact Nat.le_refl _)
    obtain ⟨hx, hown2⟩ := id hown'
    simp only [Nat.zero_add, List.nil_append] at hx hown2 hown'
    rcases hown2 with ⟨rfl, rfl⟩ | ⟨g, cap, cur, rfl, -⟩
    · exact ⟨none, 0, rfl, hB, .inl (List.length_eq_zero_iff.1 HVL.out)⟩
    · refine ⟨_, cap, rfl, hB, .inr ⟨g, rfl, (hown'.lt _ rfl).1, fun j u hj => ?_, fun o => hown'.frozenAt o, (hown'.lt _ rfl).2⟩⟩
      obtain ⟨hjl, -⟩ := List.getElem?_eq_some_iff.1 hj
      rw [hown'.cellAt _ (by rw [vcs_length, HVL.out] at hjl; exact hjl)]
      exact hj
theorem info5 : (Try.prog.info? 5).map (fun i => (i.zero, i.size, i.bytes)) = some (some (.int .u8 0), 1, 1) := by kernel_rfl
def kcs (vs : List V) : List Value := vs.map fun v => .int .u8 v.1
theorem kcs_snoc (vs : List V) {k : Nat} (hk : k < vs.length) : kcs (vs.take (k + 1)) = kcs (vs.take k) ++ [.int .u8 vs[k].1] := by
  unfold kcs
  rw [List.take_succ_eq_append_getElem hk, List.map_append]
  rfl
theorem bytes_row {w : World} {base n : Nat} {v : Value} {vs : List V} (h : w.ownsRow base 5 1 v n (kcs vs)) (hn : vs.length = n) (hv : ∀ u ∈ vs, VOk u) : ∃ A c, v = .slice A n c ∧ BytesAt w A n (vs.map (·.1)) := by
  rcases h.2 with ⟨e, e2⟩ | ⟨g, cap, cur, e, hb, hc, -⟩
  · subst e2
    obtain rfl : vs = [] := List.length_eq_zero_iff.1 hn
    exact ⟨none, 0, e, BytesAt.nil _ _⟩
  · refine ⟨_, cap, e, by rw [List.length_map]; exact hn, fun i hi => ?_⟩
    have hi2 : i < vs.length := by simpa using hi
    refine ⟨g, 0, rfl, (Array.getElem?_eq_some_iff.1 hc).1, ?_, ?_⟩
    · rw [List.getElem_map]
      exact (hv _ (List.getElem_mem hi2)).1
    · have := h.cells (g := g) (by rw [e]; rfl) i (.int .u8 vs[i].1) (by unfold kcs; rw [List.getElem?_map, List.getElem?_eq_getElem hi2]; rfl)
      rw [add_at] at this
      rw [List.getElem_map]
      exact this
theorem vs_ok {w : World} {A : Option Addr} {n : Nat} {vs : List V} (h : VsAt w A n vs) : ∀ v ∈ vs, VOk v := by
  intro v hv
  obtain ⟨i, hi, rfl⟩ := List.mem_iff_getElem.1 hv
  obtain ⟨g, o, e, hg, hk, -⟩ := h.2 i hi
  exact hk
theorem vs_lt {w : World} {A : Option Addr} {n : Nat} {vs : List V} (h : VsAt w A n vs) {k : Nat} (hk : k < vs.length) : ∃ g o, A = some ⟨g, o, none⟩ ∧ g < w.heap.size ∧ (0 ≤ vs[k].1 ∧ vs[k].1 ≤ 255) := by
  obtain ⟨g, o, e, hg, hv, -⟩ := h.2 k hk
  exact ⟨g, o, e, hg, hv.1⟩
set_option maxHeartbeats 1000000 in
theorem kinds_any (A : Option Addr) (n c : Nat) (vs : List V) (w : World) (hv : VsAt w A n vs) (hn : n ≤ 100000) : Calls Try.prog 19 #[.slice A n c] w fun e w' => ∃ A' c', e = .returned (.slice A' n c') ∧ Below w.heap.size w w' ∧ BytesAt w' A' n (vs.map (·.1)) := by
  obtain ⟨i0, hi, hz0, hz1, hz2⟩ := fr_parts info5
  have HV := Lib.hid hv
  have hvl := hv.1
  have HVL := Lib.hid hvl
  have hn2 : (n : Int) ≤ 100000 := by omega
  clear hv hvl
  go_enter Try.func19, Try.ntmps19
  go_wp2_with fail
  go_loopw [3, 8] (fun v i wr => ∃ k : Nat, k ≤ n ∧ i = .int .i64 k ∧ wr.ownsRow w.heap.size 5 1 v k (kcs (vs.take k)) ∧ Below w.heap.size w wr) (fun _ i _ => n - (intOf i).toNat)
  case atStart => exact ⟨0, Nat.zero_le _, rfl, World.ownsRow_nil _ _ _ _, Below.refl _ _⟩
  case round =>
    obtain ⟨k, hk, rfl, hown, hB⟩ := hrel
    by_cases hlt : k < n
    · have hkl : k < vs.length := by rw [HVL.out]; exact hlt
      obtain ⟨g, o, rfl, hg, hv0, x0, x1, x2⟩ := (HV.out.below hB).2 k hkl
      have HSN := Lib.hid (kcs_snoc vs hkl)
      have HOWN := Lib.hid hown
      have HB := Lib.hid hB
      generalize vs[k] = u at *
      obtain ⟨u0, u1, u2⟩ := u
      dsimp only at x0 x1 x2 HSN
      have hki : (k : Int) < (n : Int) := by omega
      clear hown hB hkl hv0
      go_wp2_with (at_builtin; refine wpList_append_own _ rfl _ _ 48 rfl w.heap.size 5 i0 (.int .u8 0) 1 1 Try.underlying48 hi hz0 hz1 hz2 rfl (by decide) _ _ _ rfl ((HOWN.out.alloc _).alloc _) ⟨wr.heap.size + 1, 0, none⟩ 1 1 [.int .u8 u0] rfl rfl (by have := cell_one_new (wr.alloc (.cells #[.int .u8 u0, .int .i64 u1, .int .i64 u2] 29)) (.int .u8 u0) 5; simpa using this) (by simp [Value.oneCell']) (by unfold maxLen; omega) (by omega) (by have := HB.out.size; simp; omega) ?_; intro v' w2 hown' hgrow _)
      have hB2 : Below w.heap.size w w2 := ((HB.out.alloc HB.out.size _).alloc (by have := HB.out.size; simp; omega) _).grown hgrow (by have := HB.out.size; simp; omega) (fun b hb => (HOWN.out.lt b hb).1)
      rw [← HSN.out] at hown'
      go_roundw
      case rel => exact ⟨k + 1, by omega, by go_num, hown', hB2⟩
      case measure => first | (simp [intOf]; done) | (simp [intOf]; omega)
    · obtain rfl : k = n := by omega
      have e : vs.take k = vs := List.take_of_length_le (by rw [HVL.out]; exact Nat.le_refl _)
      rw [e] at hown
      obtain ⟨A', c', rfl, hb⟩ := bytes_row hown HVL.out (vs_ok HV.out)
      have HB := Lib.hid (And.intro hB hb)
      clear hown hB hb e
      go_wp2_with fail
      go_ret
      exact ⟨A', c', rfl, HB.out.1, HB.out.2⟩

def outB (vs : List V) (ks : List Int) : Bool := decide (vs.length = ks.length) && (vs.zip ks).all (fun x => decide (x.1.1 = x.2) && mayV x.1)
theorem outside1_any (v : V) (k : Int) (w : World) : Calls Try.prog 28 #[vagg v, .int .u8 k] w fun e w' => e = .returned (.bool (decide (v.1 = k) && mayV v)) ∧ Below w.heap.size w w' := by
  obtain ⟨v0, v1, v2⟩ := v
  have hb1 : Below w.heap.size w (w.alloc (.cells #[.int .u8 v0, .int .i64 v1, .int .i64 v2] 29)) := (Below.refl _ _).alloc (Nat.le_refl _) _
  have HB := Lib.hid hb1
  have HM := Lib.hid (fun W => vmay_any (v0, v1, v2) W)
  by_cases hk : v0 = k
  · have e : (decide ((v0, v1, v2).1 = k) && mayV (v0, v1, v2)) = mayV (v0, v1, v2) := by rw [decide_eq_true (show (v0, v1, v2).1 = k from hk)]; rfl
    rw [e]
    generalize mayV (v0, v1, v2) = m at *
    unfold vagg at *
    dsimp only at *
    have hq : (v0 == k) = true := by simp [hk]
    clear hk e hb1
    go_enter Try.func28, Try.ntmps28
    go_wp2_with fail
    refine (HM.out _).mono ?_
    rintro e w2 ⟨rfl, hb⟩
    have HB2 := Lib.hid (below_next HB.out hb)
    clear hb
    go_wp2_with fail
    go_ret
    exact ⟨rfl, HB2.out⟩
  · have e : (decide ((v0, v1, v2).1 = k) && mayV (v0, v1, v2)) = false := by rw [decide_eq_false (show ¬ (v0, v1, v2).1 = k from hk)]; rfl
    rw [e]
    unfold vagg at *
    dsimp only at *
    have hq : (v0 == k) = false := by simp [hk]
    clear hk e hb1
    go_enter Try.func28, Try.ntmps28
    go_wp2_with fail
    go_ret
    exact ⟨rfl, HB.out⟩
theorem all_take {vs : List V} {ks : List Int} (hl : vs.length = ks.length) (f : V × Int → Bool) {k : Nat} (hk : k < vs.length) (h2 : k < ks.length) : ((vs.zip ks).take (k + 1)).all f = (((vs.zip ks).take k).all f && f (vs[k], ks[k])) := by
  have hz : k < (vs.zip ks).length := by rw [List.length_zip]; omega
  rw [List.take_succ_eq_append_getElem hz, List.all_append, List.getElem_zip]
  simp
set_option maxHeartbeats 1000000 in
theorem equalFunc_any (A B : Option Addr) (n c m d : Nat) (vs : List V) (ks : List Int) (w : World) (hv : VsAt w A n vs) (hk : BytesAt w B m ks) (hn : n ≤ 100000) (hm : m = n) : Calls Try.prog 27 #[.slice A n c, .slice B m d, .func (.func 28) #[] #[]] w fun e w' => e = .returned (.bool ((vs.zip ks).all (fun x => decide (x.1.1 = x.2) && mayV x.1))) ∧ Below w.heap.size w w' := by
  subst hm
  have hlen : vs.length = ks.length := hv.1.trans hk.1.symm
  have HV := Lib.hid (And.intro hv (And.intro hk hlen))
  have hn2 : (m : Int) ≤ 100000 := by omega
  obtain ⟨f, hf⟩ : ∃ f, (fun x : V × Int => decide (x.1.1 = x.2) && mayV x.1) = f := ⟨_, rfl⟩
  rw [hf]
  have HF := Lib.hid hf
  clear hv hk hlen hf
  go_enter Try.func27, Try.ntmps27
  go_wp2_with fail
  go_loopw [17] (fun i wr => ∃ k : Nat, k ≤ m ∧ i = .int .i64 k ∧ ((vs.zip ks).take k).all f = true ∧ Below w.heap.size w wr) (fun i _ => m - (intOf i).toNat)
  case atStart => exact ⟨0, Nat.zero_le _, rfl, rfl, Below.refl _ _⟩
  case round =>
    obtain ⟨k, hk, rfl, hall, hB⟩ := hrel
    by_cases hlt : k < m
    · have hkv : k < vs.length := by rw [HV.out.1.1]; exact hlt
      have hkk : k < ks.length := by rw [HV.out.2.1.1]; exact hlt
      obtain ⟨g, o, eA, hg, hv0, x0, x1, x2⟩ := (HV.out.1.below hB).2 k hkv
      obtain ⟨g', o', eB, hg', hk0, y0⟩ := (HV.out.2.1.below hB).2 k hkk
      have hst := all_take HV.out.2.2 f hkv hkk
      rw [hall, Bool.true_and] at hst
      have hfv : f (vs[k], ks[k]) = (decide (vs[k].1 = ks[k]) && mayV vs[k]) := by rw [← HF.out]
      have HC := Lib.hid (fun W => outside1_any vs[k] ks[k] W)
      rw [hfv] at hst
      generalize (decide (vs[k].1 = ks[k]) && mayV vs[k]) = q at *
      generalize vs[k] = u at *
      generalize ks[k] = κ at *
      obtain ⟨u0, u1, u2⟩ := u
      subst eA eB
      unfold vagg at HC
      dsimp only at x0 x1 x2 HC
      have HST := Lib.hid hst
      have HB := Lib.hid hB
      have HLT := Lib.hid hlt
      have hki : (k : Int) < (m : Int) := by omega
      have HAL : Hid (q = false → (vs.zip ks).all f = false) := Lib.hid (by
        intro hq
        rw [hq] at hst
        have e : (vs.zip ks) = (vs.zip ks).take (k + 1) ++ (vs.zip ks).drop (k + 1) := (List.take_append_drop _ _).symm
        rw [e, List.all_append, hst]
        rfl)
      clear hst hB hfv hkv hkk hall hv0 hk0 hlt
      go_wp2_with fail
      refine (HC.out _).mono ?_
      rintro e w3 ⟨rfl, hb⟩
      have HB3 := Lib.hid (below_next (HB.out.alloc HB.out.size _) hb)
      clear hb
      cases q with
      | true =>
        go_wp2_with fail
        go_roundw
        case rel => exact ⟨k + 1, by have := HLT.out; omega, by go_num, HST.out, HB3.out⟩
        case measure => have := HLT.out; first | (simp [intOf]; done) | (simp [intOf]; omega)
      | false =>
        have HA2 := Lib.hid (HAL.out rfl)
        clear HAL
        go_wp2_with fail
        go_ret
        exact ⟨by rw [HA2.out]; rfl, HB3.out⟩
    · obtain rfl : k = m := by omega
      have e : ((vs.zip ks).take k).all f = (vs.zip ks).all f := by rw [List.take_of_length_le (by rw [List.length_zip, HV.out.1.1, HV.out.2.1.1]; omega)]
      have HE := Lib.hid (And.intro (e.symm.trans hall) hB)
      clear e hall hB
      go_wp2_with fail
      go_ret
      exact ⟨by rw [HE.out.1]; rfl, HE.out.2⟩
theorem outside_any (A B : Option Addr) (n c m d : Nat) (vs : List V) (ks : List Int) (w : World) (hv : VsAt w A n vs) (hk : BytesAt w B m ks) (hn : n ≤ 100000) (hm : m ≤ 100000) : Calls Try.prog 18 #[.slice A n c, .slice B m d] w fun e w' => e = .returned (.bool (outB vs ks)) ∧ Below w.heap.size w w' := by
  by_cases h : n = m
  · have HC := Lib.hid (equalFunc_any A B n c m d vs ks w hv hk hn h.symm)
    have e : outB vs ks = (vs.zip ks).all (fun x => decide (x.1.1 = x.2) && mayV x.1) := by unfold outB; rw [decide_eq_true (by rw [hv.1, hk.1]; exact h)]; rfl
    rw [e]
    generalize (vs.zip ks).all (fun x => decide (x.1.1 = x.2) && mayV x.1) = q at *
    subst h
    clear hv hk e
    go_enter Try.func18, Try.ntmps18
    go_wp2_with fail
    refine HC.out.mono ?_
    rintro e w2 ⟨rfl, hb⟩
    go_wp2_with fail
    go_ret
    exact ⟨rfl, hb⟩
  · have e : outB vs ks = false := by unfold outB; rw [decide_eq_false (by rw [hv.1, hk.1]; exact h)]; rfl
    rw [e]
    have hq : ((n : Int) == (m : Int)) = false := by rw [beq_eq_false_iff_ne]; omega
    clear hv hk e h
    go_enter Try.func18, Try.ntmps18
    go_wp2_with fail
    go_ret
    exact ⟨rfl, Below.refl _ _⟩
end
#print axioms all_take
#print axioms equalFunc_any
#print axioms outside_any
end Go.Proofs.Ytkhgpeejmbfmjaa
/- The run begins: its first state. -/
namespace Go.Proofs.Ytkhgpeejmbfmjaa
open Go.RowKit
set_option linter.unusedSimpArgs false
set_option linter.unusedVariables false
set_option maxRecDepth 100000
section
variable {w0 W : World} {X : Sx} {rb : Nat} {fgs : List Nat} {c : Nat} {s : Mc} {K : Nat → Prop} {fg : Nat}

theorem HX.base {w w1 W : World} {gh gw room : Nat} {arrs : List (List Int)} {K : Nat → Prop} (h : HX w1 W gh gw room arrs K) (hb : Below w.heap.size w w1) : HX w W gh gw room arrs K := by
  obtain ⟨h0, k1, k2, k3⟩ := h
  exact ⟨h0, below_next hb k1, Nat.le_trans hb.size k2, Nat.le_trans hb.size k3⟩
/-- A call's first state, ahead of its frame. -/
def s00 (gs : List V) : Mc := ⟨[], [], [], gs, 0, 0, 0, false, (0, zv)⟩
def begin0 (m : Md) (i : Nat) (vs gs : List V) : Mc := ⟨[newFr (m.at i).args (m.at i).locs vs], [i], [], gs, 0, 0, 0, false, (0, zv)⟩
/-- May a call begin? -/
def limB (l : Lm) : Bool := inB l.fuel 1048576 && (inB l.stack 256 && inB l.heap 1024)
def beginB (m : Md) (i : Int) (vs gs : List V) (l : Lm) : Bool := inB i (m.mts.length - 1) && (limB l && (outB vs (m.at i.toNat).args && (outB gs m.gk && newB (m.at i.toNat).args (m.at i.toNat).locs vs)))
theorem RunIn.first {V0 : World} {gw : Nat} {Ag : Option Addr} {cg : Nat} {gs : List V} {B1 B2 : Nat} (hB : Below w0.heap.size w0 V0) (blk : Blk V0 rb (rcells X (.slice none 0 0) (.slice none 0 0) X.gh (.slice Ag gs.length cg) (s00 gs))) (hrb : w0.heap.size ≤ rb)
    (hH : HX w0 V0 X.gh gw X.l.heap.toNat [] (fun b => b < V0.heap.size ∧ ¬ (B1 ≤ b ∧ b < B2))) (hB1 : rb < B1) (hB2 : B1 ≤ B2)
    (hG : gs = [] ∨ ∃ gb, Ag = some ⟨gb, 0, none⟩ ∧ w0.heap.size ≤ gb ∧ gb < rb ∧ Blk V0 gb (vcs gs)) (md : ModAt w0 X) (gv : ∀ v ∈ gs, VOk v) (gn : gs.length ≤ 20) :
    ∃ own, RunIn w0 V0 X rb [] 0 (s00 gs) (fun b => b < V0.heap.size ∧ own b = 0) own none 0 none 0 X.gh gw Ag cg ∧ (∀ b, B2 ≤ b → own b = 0) ∧ ∀ b, b < w0.heap.size → own b = 0 := by
  obtain ⟨gb, hgb⟩ : ∃ gb : Nat, gb < rb ∧ (gs = [] ∨ (w0.heap.size ≤ gb ∧ Ag = some ⟨gb, 0, none⟩ ∧ Blk V0 gb (vcs gs))) ∨ (gs = [] ∧ gb = rb) := by
    rcases hG with e | ⟨gb, e1, e2, e3, e4⟩
    · exact ⟨rb, .inr ⟨e, rfl⟩⟩
    · exact ⟨gb, .inl ⟨e3, .inr ⟨e2, e1, e4⟩⟩⟩
  obtain ⟨own, ho⟩ : ∃ own : Nat → Nat, own = fun b => if b < w0.heap.size then 0 else if b = rb ∨ b = gb then 1 else if B1 ≤ b ∧ b < B2 then 2 else 0 := ⟨_, rfl⟩
  have hgr : gb ≤ rb := by rcases hgb with ⟨e, -⟩ | ⟨-, e⟩ <;> omega
  have o1 : ∀ b, w0.heap.size ≤ b → (b = rb ∨ b = gb) → own b = 1 := fun b h1 h2 => by rw [ho]; dsimp only; rw [if_neg (by omega), if_pos h2]
  have o0 : ∀ b, b < w0.heap.size → own b = 0 := fun b h1 => by rw [ho]; exact if_pos h1
  have o2 : ∀ b, own b ≠ 2 → ¬ (B1 ≤ b ∧ b < B2) := fun b h1 h2 => h1 (by rw [ho]; dsimp only; rw [if_neg (by omega), if_neg (by omega), if_pos h2])
  have oB : ∀ b, B2 ≤ b → own b = 0 := fun b h1 => by rw [ho]; dsimp only; rw [if_neg (by omega), if_neg (by omega), if_neg (by omega)]
  refine ⟨own, ⟨blk, World.ownsRow_nil _ _ _ _, World.ownsRow_nil _ _ _ _, hH.less (fun b hb => ⟨hb.1, o2 b hb.2⟩), rfl, fun i hi => absurd hi (by simp), ?_, ⟨o1 rb hrb (.inl rfl), fun a e => (by cases e), fun a e => (by cases e), fun a b e => (by cases e)⟩, o0, fun b hb => hb, hB, md, ?_, rfl⟩, oB, o0⟩
  · rcases hgb with ⟨h1, h2 | ⟨h2, h3, h4⟩⟩ | ⟨h1, -⟩
    · exact .inl h2
    · exact .inr ⟨gb, h3, o1 gb h2 (.inr rfl), h4, by omega, fun a e => (by cases e), fun a e => (by cases e)⟩
    · exact .inl h1
  · exact ⟨rfl, fun i hi => (by cases hi), Nat.le_refl _, fun r hr => (by cases hr), gv, gn, by show 0 ≤ 257; omega, by omega, by unfold I64 s00; dsimp only; omega, ⟨by unfold I64 s00; dsimp only; omega, zv_ok⟩⟩
end
#print axioms HX
#print axioms RunIn
end Go.Proofs.Ytkhgpeejmbfmjaa
/- The run begins: where nothing begins. -/
namespace Go.Proofs.Ytkhgpeejmbfmjaa
open Go.RowKit
set_option linter.unusedSimpArgs false
set_option linter.unusedVariables false
set_option maxRecDepth 100000
section
variable {w0 W : World} {X : Sx} {rb : Nat} {fgs : List Nat} {c : Nat} {s : Mc} {K : Nat → Prop} {fg : Nat}

def modV (X : Sx) : Value := .agg #[X.mg, .slice X.mp X.np X.cp, .slice X.mm X.nm X.cm, .int .i64 X.mi]
def limV (l : Lm) : Value := .agg #[.int .i64 l.fuel, .int .i64 l.stack, .int .i64 l.heap]
/-- What a call is handed. -/
structure Given (w : World) (X : Sx) (Mg : Option Addr) (nmg cmg : Nat) (mgs : List V) (Aa : Option Addr) (na : Nat) (vs : List V) (Ab : Option Addr) (ng : Nat) (gs : List V) : Prop where
  md : ModAt w X
  mg : X.mg = .slice Mg nmg cmg
  vm : VsAt w Mg nmg mgs
  gk : X.m.gk = mgs.map (·.1)
  va : VsAt w Aa na vs
  vg : VsAt w Ab ng gs
  na : na ≤ 20
  ng : ng ≤ 20
  nmg : nmg ≤ 20
theorem lim_cases {l : Lm} (h : limB l = false) : inB l.fuel 1048576 = false ∨ (inB l.fuel 1048576 = true ∧ inB l.stack 256 = false) ∨ (inB l.fuel 1048576 = true ∧ inB l.stack 256 = true ∧ inB l.heap 1024 = false) := by
  unfold limB at h
  cases h1 : inB l.fuel 1048576 with
  | false => exact .inl rfl
  | true =>
    cases h2 : inB l.stack 256 with
    | false => exact .inr (.inl ⟨rfl, rfl⟩)
    | true => rw [h1, h2] at h; exact .inr (.inr ⟨rfl, rfl, h⟩)
theorem lim_all {l : Lm} (h : limB l = true) : inB l.fuel 1048576 = true ∧ inB l.stack 256 = true ∧ inB l.heap 1024 = true := by
  unfold limB at h
  rw [Bool.and_eq_true, Bool.and_eq_true] at h
  exact h
theorem in_say (n p : Int) {q : Bool} (h : inB n p = q) : ∀ V, Calls Try.prog 17 #[.int .i64 n, .int .i64 p] V fun e V' => e = .returned (.bool q) ∧ V = V' := fun V => by rw [← h]; exact (in_any _ _ _).mono (fun _ _ h => ⟨h.1, h.2.symm⟩)

theorem begin_n1 {Mg : Option Addr} {nmg cmg : Nat} {mgs : List V} {Aa : Option Addr} {na ca : Nat} {vs : List V} {Ab : Option Addr} {ng cb : Nat} {gs : List V} (h : Given W X Mg nmg cmg mgs Aa na vs Ab ng gs) (i : Int) (h1 : inB i ((X.nm : Int) - 1) = false) :
    Calls Try.prog 13 #[modV X, .int .i64 i, .slice Aa na ca, .slice Ab ng cb, limV X.l] W fun e W' => e = .returned (.tuple #[.pointer none, .bool false]) ∧ Below W.heap.size W W' := by
  have hb0 : Below W.heap.size W ((W.alloc (.cells #[X.mg, .slice X.mp X.np X.cp, .slice X.mm X.nm X.cm, .int .i64 X.mi] 25)).alloc (.cells #[.int .i64 X.l.fuel, .int .i64 X.l.stack, .int .i64 X.l.heap] 33)) := ((Below.refl _ _).alloc (Nat.le_refl _) _).alloc (by simp) _
  have HB0 := Lib.hid hb0
  have hnm := h.md.nm
  have wn : IntKind.i64.wrap ((X.nm : Int) - 1) = (X.nm : Int) - 1 := IntWalk.i64_in _ (by omega)
  unfold modV limV
  have I1 := Lib.hid (in_say i ((X.nm : Int) - 1) h1)
  clear hb0 h hnm
  go_enter Try.func13, Try.ntmps13
  go_wp2_with fail
  refine (I1.out _).mono ?_
  rintro e w2 ⟨rfl, rfl⟩
  go_wp2_with fail
  go_ret2
  exact ⟨rfl, HB0.out⟩

theorem begin_n2 {Mg : Option Addr} {nmg cmg : Nat} {mgs : List V} {Aa : Option Addr} {na ca : Nat} {vs : List V} {Ab : Option Addr} {ng cb : Nat} {gs : List V} (h : Given W X Mg nmg cmg mgs Aa na vs Ab ng gs) (i : Int) (h1 : inB i ((X.nm : Int) - 1) = true) (h2 : inB X.l.fuel 1048576 = false) :
    Calls Try.prog 13 #[modV X, .int .i64 i, .slice Aa na ca, .slice Ab ng cb, limV X.l] W fun e W' => e = .returned (.tuple #[.pointer none, .bool false]) ∧ Below W.heap.size W W' := by
  have hb0 : Below W.heap.size W ((W.alloc (.cells #[X.mg, .slice X.mp X.np X.cp, .slice X.mm X.nm X.cm, .int .i64 X.mi] 25)).alloc (.cells #[.int .i64 X.l.fuel, .int .i64 X.l.stack, .int .i64 X.l.heap] 33)) := ((Below.refl _ _).alloc (Nat.le_refl _) _).alloc (by simp) _
  have HB0 := Lib.hid hb0
  have hnm := h.md.nm
  have wn : IntKind.i64.wrap ((X.nm : Int) - 1) = (X.nm : Int) - 1 := IntWalk.i64_in _ (by omega)
  unfold modV limV
  have I1 := Lib.hid (in_say i ((X.nm : Int) - 1) h1)
  have I2 := Lib.hid (in_say X.l.fuel 1048576 h2)
  clear hb0 h hnm
  go_enter Try.func13, Try.ntmps13
  go_wp2_with fail
  refine (I1.out _).mono ?_
  rintro e w2 ⟨rfl, rfl⟩
  go_wp2_with fail
  refine (I2.out _).mono ?_
  rintro e w3 ⟨rfl, rfl⟩
  go_wp2_with fail
  go_ret2
  exact ⟨rfl, HB0.out⟩

theorem begin_n3 {Mg : Option Addr} {nmg cmg : Nat} {mgs : List V} {Aa : Option Addr} {na ca : Nat} {vs : List V} {Ab : Option Addr} {ng cb : Nat} {gs : List V} (h : Given W X Mg nmg cmg mgs Aa na vs Ab ng gs) (i : Int) (h1 : inB i ((X.nm : Int) - 1) = true) (h2 : inB X.l.fuel 1048576 = true) (h3 : inB X.l.stack 256 = false) :
    Calls Try.prog 13 #[modV X, .int .i64 i, .slice Aa na ca, .slice Ab ng cb, limV X.l] W fun e W' => e = .returned (.tuple #[.pointer none, .bool false]) ∧ Below W.heap.size W W' := by
  have hb0 : Below W.heap.size W ((W.alloc (.cells #[X.mg, .slice X.mp X.np X.cp, .slice X.mm X.nm X.cm, .int .i64 X.mi] 25)).alloc (.cells #[.int .i64 X.l.fuel, .int .i64 X.l.stack, .int .i64 X.l.heap] 33)) := ((Below.refl _ _).alloc (Nat.le_refl _) _).alloc (by simp) _
  have HB0 := Lib.hid hb0
  have hnm := h.md.nm
  have wn : IntKind.i64.wrap ((X.nm : Int) - 1) = (X.nm : Int) - 1 := IntWalk.i64_in _ (by omega)
  unfold modV limV
  have I1 := Lib.hid (in_say i ((X.nm : Int) - 1) h1)
  have I2 := Lib.hid (in_say X.l.fuel 1048576 h2)
  have I3 := Lib.hid (in_say X.l.stack 256 h3)
  clear hb0 h hnm
  go_enter Try.func13, Try.ntmps13
  go_wp2_with fail
  refine (I1.out _).mono ?_
  rintro e w2 ⟨rfl, rfl⟩
  go_wp2_with fail
  refine (I2.out _).mono ?_
  rintro e w3 ⟨rfl, rfl⟩
  go_wp2_with fail
  refine (I3.out _).mono ?_
  rintro e w4 ⟨rfl, rfl⟩
  go_wp2_with fail
  go_ret2
  exact ⟨rfl, HB0.out⟩

theorem begin_n4 {Mg : Option Addr} {nmg cmg : Nat} {mgs : List V} {Aa : Option Addr} {na ca : Nat} {vs : List V} {Ab : Option Addr} {ng cb : Nat} {gs : List V} (h : Given W X Mg nmg cmg mgs Aa na vs Ab ng gs) (i : Int) (h1 : inB i ((X.nm : Int) - 1) = true) (h2 : inB X.l.fuel 1048576 = true) (h3 : inB X.l.stack 256 = true) (h4 : inB X.l.heap 1024 = false) :
    Calls Try.prog 13 #[modV X, .int .i64 i, .slice Aa na ca, .slice Ab ng cb, limV X.l] W fun e W' => e = .returned (.tuple #[.pointer none, .bool false]) ∧ Below W.heap.size W W' := by
  have hb0 : Below W.heap.size W ((W.alloc (.cells #[X.mg, .slice X.mp X.np X.cp, .slice X.mm X.nm X.cm, .int .i64 X.mi] 25)).alloc (.cells #[.int .i64 X.l.fuel, .int .i64 X.l.stack, .int .i64 X.l.heap] 33)) := ((Below.refl _ _).alloc (Nat.le_refl _) _).alloc (by simp) _
  have HB0 := Lib.hid hb0
  have hnm := h.md.nm
  have wn : IntKind.i64.wrap ((X.nm : Int) - 1) = (X.nm : Int) - 1 := IntWalk.i64_in _ (by omega)
  unfold modV limV
  have I1 := Lib.hid (in_say i ((X.nm : Int) - 1) h1)
  have I2 := Lib.hid (in_say X.l.fuel 1048576 h2)
  have I3 := Lib.hid (in_say X.l.stack 256 h3)
  have I4 := Lib.hid (in_say X.l.heap 1024 h4)
  clear hb0 h hnm
  go_enter Try.func13, Try.ntmps13
  go_wp2_with fail
  refine (I1.out _).mono ?_
  rintro e w2 ⟨rfl, rfl⟩
  go_wp2_with fail
  refine (I2.out _).mono ?_
  rintro e w3 ⟨rfl, rfl⟩
  go_wp2_with fail
  refine (I3.out _).mono ?_
  rintro e w4 ⟨rfl, rfl⟩
  go_wp2_with fail
  refine (I4.out _).mono ?_
  rintro e w5 ⟨rfl, rfl⟩
  go_wp2_with fail
  go_ret2
  exact ⟨rfl, HB0.out⟩

set_option maxHeartbeats 2000000 in
theorem begin_n5 {Mg : Option Addr} {nmg cmg : Nat} {mgs : List V} {Aa : Option Addr} {na ca : Nat} {vs : List V} {Ab : Option Addr} {ng cb : Nat} {gs : List V} (h : Given W X Mg nmg cmg mgs Aa na vs Ab ng gs) (i : Int) (h1 : inB i ((X.nm : Int) - 1) = true) (h2 : inB X.l.fuel 1048576 = true) (h3 : inB X.l.stack 256 = true) (h4 : inB X.l.heap 1024 = true) (h5 : outB vs (X.m.at i.toNat).args = false) :
    Calls Try.prog 13 #[modV X, .int .i64 i, .slice Aa na ca, .slice Ab ng cb, limV X.l] W fun e W' => e = .returned (.tuple #[.pointer none, .bool false]) ∧ Below W.heap.size W W' := by
  have hb0 : Below W.heap.size W ((W.alloc (.cells #[X.mg, .slice X.mp X.np X.cp, .slice X.mm X.nm X.cm, .int .i64 X.mi] 25)).alloc (.cells #[.int .i64 X.l.fuel, .int .i64 X.l.stack, .int .i64 X.l.heap] 33)) := ((Below.refl _ _).alloc (Nat.le_refl _) _).alloc (by simp) _
  have HB0 := Lib.hid hb0
  have hnm := h.md.nm
  have wn : IntKind.i64.wrap ((X.nm : Int) - 1) = (X.nm : Int) - 1 := IntWalk.i64_in _ (by omega)
  unfold modV limV
  have I1 := Lib.hid (in_say i ((X.nm : Int) - 1) h1)
  have I2 := Lib.hid (in_say X.l.fuel 1048576 h2)
  have I3 := Lib.hid (in_say X.l.stack 256 h3)
  have I4 := Lib.hid (in_say X.l.heap 1024 h4)
  obtain ⟨k, rfl, hk⟩ := inB_nat h1
  have hk2 : k < X.m.mts.length := by rw [h.md.ml]; exact hk
  obtain ⟨g, o, hmm, hgl, Ba, nb, cbb, Bl, nl, cl, Ac, nc, cc, rd, y1, y2, y3, m0, m1, -, -, -, -, -, -, hba, hbl, -, hnb, hnl, -, -⟩ := h.md.mts k hk2
  obtain ⟨x, hx⟩ : ∃ x, X.m.at k = x := ⟨_, rfl⟩
  have hxe : X.m.mts[k] = x := by rw [← hx, Md.at_eq hk2]
  rw [hxe] at hba hbl
  rw [Int.toNat_natCast, hx] at h5
  have hkn : (k : Int) < (X.nm : Int) := by omega
  have hk0 : 0 ≤ (k : Int) := by omega
  obtain ⟨W1, t5, hW1, ht5, hb01, B5, B9⟩ : ∃ (W1 : World) (t5 : Nat), ((W.alloc (.cells #[X.mg, .slice X.mp X.np X.cp, .slice X.mm X.nm X.cm, .int .i64 X.mi] 25)).alloc (.cells #[.int .i64 X.l.fuel, .int .i64 X.l.stack, .int .i64 X.l.heap] 33)) = W1 ∧ W.heap.size = t5 ∧ Below W.heap.size W W1 ∧ Blk W1 t5 [X.mg, .slice X.mp X.np X.cp, .slice X.mm X.nm X.cm, .int .i64 X.mi] ∧ Blk W1 (t5 + 1) [.int .i64 X.l.fuel, .int .i64 X.l.stack, .int .i64 X.l.heap] := by
    refine ⟨_, _, rfl, rfl, hb0, (Blk.new W _ 25).alloc _, ?_⟩
    have := Blk.new (W.alloc (.cells #[X.mg, .slice X.mp X.np X.cp, .slice X.mm X.nm X.cm, .int .i64 X.mi] 25)) #[.int .i64 X.l.fuel, .int .i64 X.l.stack, .int .i64 X.l.heap] 33
    simpa using this
  rw [h.mg, hmm] at hW1
  have HE := Lib.hid (And.intro hW1 ht5)
  have H0 := Lib.hid (And.intro h (And.intro hb01 (And.intro B5 (And.intro B9 (And.intro hba hbl)))))
  have HO1 := Lib.hid (outside_any Aa Ba na ca nb cbb vs x.args W1 (h.va.below hb01) (hba.below hb01) (by have := h.na; omega) (by omega))
  rw [h5] at HO1
  have n0 : W1.cell? ⟨g, o + k * 8, none⟩ = some (.slice Ba nb cbb) := (hb01.cell (p := ⟨g, _, none⟩) hgl).trans m0
  have n1 : W1.cell? ⟨g, o + k * 8 + 1, none⟩ = some (.slice Bl nl cl) := (hb01.cell (p := ⟨g, _, none⟩) hgl).trans m1
  have gl1 : g < W1.heap.size := Nat.lt_of_lt_of_le hgl hb01.size
  have b0 : W1.cell? ⟨t5, 0, none⟩ = some (.slice Mg nmg cmg) := by rw [← h.mg]; exact B5.c 0 _ rfl
  have b2 : W1.cell? ⟨t5, 2, none⟩ = some (.slice (some ⟨g, o, none⟩) X.nm X.cm) := by rw [← hmm]; exact B5.c 2 _ rfl
  have bl5 := B5.l
  rw [h.mg, hmm]
  clear hb0 HB0 h hnm hk hk2 hx hxe hba hbl hmm hgl m0 m1 hW1 ht5 hb01 B5 B9 h1 h2 h3 h4 h5
  go_enter Try.func13, Try.ntmps13
  go_wp2_with fail
  refine (I1.out _).mono ?_
  rintro e w2 ⟨rfl, rfl⟩
  go_wp2_with fail
  refine (I2.out _).mono ?_
  rintro e w2 ⟨rfl, rfl⟩
  go_wp2_with fail
  refine (I3.out _).mono ?_
  rintro e w2 ⟨rfl, rfl⟩
  go_wp2_with fail
  refine (I4.out _).mono ?_
  rintro e w2 ⟨rfl, rfl⟩
  rw [HE.out.1, HE.out.2]
  clear HE
  go_wp2_with fail
  refine HO1.out.mono ?_
  rintro e w3 ⟨rfl, hb3⟩
  have HBF := Lib.hid (below_next H0.out.2.1 hb3)
  clear hb3
  go_wp2_with fail
  go_ret2
  exact ⟨rfl, HBF.out⟩

set_option maxHeartbeats 2000000 in
theorem begin_n6 {Mg : Option Addr} {nmg cmg : Nat} {mgs : List V} {Aa : Option Addr} {na ca : Nat} {vs : List V} {Ab : Option Addr} {ng cb : Nat} {gs : List V} (h : Given W X Mg nmg cmg mgs Aa na vs Ab ng gs) (i : Int) (h1 : inB i ((X.nm : Int) - 1) = true) (h2 : inB X.l.fuel 1048576 = true) (h3 : inB X.l.stack 256 = true) (h4 : inB X.l.heap 1024 = true) (h5 : outB vs (X.m.at i.toNat).args = true) (h6 : outB gs X.m.gk = false) :
    Calls Try.prog 13 #[modV X, .int .i64 i, .slice Aa na ca, .slice Ab ng cb, limV X.l] W fun e W' => e = .returned (.tuple #[.pointer none, .bool false]) ∧ Below W.heap.size W W' := by
  have hb0 : Below W.heap.size W ((W.alloc (.cells #[X.mg, .slice X.mp X.np X.cp, .slice X.mm X.nm X.cm, .int .i64 X.mi] 25)).alloc (.cells #[.int .i64 X.l.fuel, .int .i64 X.l.stack, .int .i64 X.l.heap] 33)) := ((Below.refl _ _).alloc (Nat.le_refl _) _).alloc (by simp) _
  have HB0 := Lib.hid hb0
  have hnm := h.md.nm
  have wn : IntKind.i64.wrap ((X.nm : Int) - 1) = (X.nm : Int) - 1 := IntWalk.i64_in _ (by omega)
  unfold modV limV
  have I1 := Lib.hid (in_say i ((X.nm : Int) - 1) h1)
  have I2 := Lib.hid (in_say X.l.fuel 1048576 h2)
  have I3 := Lib.hid (in_say X.l.stack 256 h3)
  have I4 := Lib.hid (in_say X.l.heap 1024 h4)
  obtain ⟨k, rfl, hk⟩ := inB_nat h1
  have hk2 : k < X.m.mts.length := by rw [h.md.ml]; exact hk
  obtain ⟨g, o, hmm, hgl, Ba, nb, cbb, Bl, nl, cl, Ac, nc, cc, rd, y1, y2, y3, m0, m1, -, -, -, -, -, -, hba, hbl, -, hnb, hnl, -, -⟩ := h.md.mts k hk2
  obtain ⟨x, hx⟩ : ∃ x, X.m.at k = x := ⟨_, rfl⟩
  have hxe : X.m.mts[k] = x := by rw [← hx, Md.at_eq hk2]
  rw [hxe] at hba hbl
  rw [Int.toNat_natCast, hx] at h5
  have hkn : (k : Int) < (X.nm : Int) := by omega
  have hk0 : 0 ≤ (k : Int) := by omega
  obtain ⟨W1, t5, hW1, ht5, hb01, B5, B9⟩ : ∃ (W1 : World) (t5 : Nat), ((W.alloc (.cells #[X.mg, .slice X.mp X.np X.cp, .slice X.mm X.nm X.cm, .int .i64 X.mi] 25)).alloc (.cells #[.int .i64 X.l.fuel, .int .i64 X.l.stack, .int .i64 X.l.heap] 33)) = W1 ∧ W.heap.size = t5 ∧ Below W.heap.size W W1 ∧ Blk W1 t5 [X.mg, .slice X.mp X.np X.cp, .slice X.mm X.nm X.cm, .int .i64 X.mi] ∧ Blk W1 (t5 + 1) [.int .i64 X.l.fuel, .int .i64 X.l.stack, .int .i64 X.l.heap] := by
    refine ⟨_, _, rfl, rfl, hb0, (Blk.new W _ 25).alloc _, ?_⟩
    have := Blk.new (W.alloc (.cells #[X.mg, .slice X.mp X.np X.cp, .slice X.mm X.nm X.cm, .int .i64 X.mi] 25)) #[.int .i64 X.l.fuel, .int .i64 X.l.stack, .int .i64 X.l.heap] 33
    simpa using this
  rw [h.mg, hmm] at hW1
  have HE := Lib.hid (And.intro hW1 ht5)
  have H0 := Lib.hid (And.intro h (And.intro hb01 (And.intro B5 (And.intro B9 (And.intro hba hbl)))))
  have HO1 := Lib.hid (outside_any Aa Ba na ca nb cbb vs x.args W1 (h.va.below hb01) (hba.below hb01) (by have := h.na; omega) (by omega))
  rw [h5] at HO1
  have n0 : W1.cell? ⟨g, o + k * 8, none⟩ = some (.slice Ba nb cbb) := (hb01.cell (p := ⟨g, _, none⟩) hgl).trans m0
  have n1 : W1.cell? ⟨g, o + k * 8 + 1, none⟩ = some (.slice Bl nl cl) := (hb01.cell (p := ⟨g, _, none⟩) hgl).trans m1
  have gl1 : g < W1.heap.size := Nat.lt_of_lt_of_le hgl hb01.size
  have b0 : W1.cell? ⟨t5, 0, none⟩ = some (.slice Mg nmg cmg) := by rw [← h.mg]; exact B5.c 0 _ rfl
  have b2 : W1.cell? ⟨t5, 2, none⟩ = some (.slice (some ⟨g, o, none⟩) X.nm X.cm) := by rw [← hmm]; exact B5.c 2 _ rfl
  have bl5 := B5.l
  rw [h.mg, hmm]
  have H6 := Lib.hid h6
  clear hb0 HB0 h hnm hk hk2 hx hxe hba hbl hmm hgl m0 m1 hW1 ht5 hb01 B5 B9 h1 h2 h3 h4 h5 h6
  go_enter Try.func13, Try.ntmps13
  go_wp2_with fail
  refine (I1.out _).mono ?_
  rintro e w2 ⟨rfl, rfl⟩
  go_wp2_with fail
  refine (I2.out _).mono ?_
  rintro e w2 ⟨rfl, rfl⟩
  go_wp2_with fail
  refine (I3.out _).mono ?_
  rintro e w2 ⟨rfl, rfl⟩
  go_wp2_with fail
  refine (I4.out _).mono ?_
  rintro e w2 ⟨rfl, rfl⟩
  rw [HE.out.1, HE.out.2]
  clear HE
  go_wp2_with fail
  refine HO1.out.mono ?_
  rintro e w3 ⟨rfl, hb3⟩
  have h := H0.out.1
  have hb13 := below_next H0.out.2.1 hb3
  have HK := Lib.hid (kinds_any Mg nmg cmg mgs w3 (h.vm.below hb13) (by have := h.nmg; omega))
  have b03 : w3.cell? ⟨t5, 0, none⟩ = some (.slice Mg nmg cmg) := (hb3.cell (p := ⟨t5, 0, none⟩) bl5).trans b0
  have bl53 : t5 < w3.heap.size := Nat.lt_of_lt_of_le bl5 hb3.size
  have H3 := Lib.hid (And.intro hb3 hb13)
  clear hb3 hb13 h
  go_wp2_with fail
  refine HK.out.mono ?_
  rintro e w4 ⟨A4, c4, rfl, hb4, hby⟩
  have h := H0.out.1
  have hb14 := below_next H3.out.2 hb4
  have HO2 := Lib.hid (outside_any Ab A4 ng cb nmg c4 gs (mgs.map (·.1)) w4 (h.vg.below hb14) hby (by have := h.ng; omega) (by have := h.nmg; omega))
  rw [← h.gk] at HO2
  have HO2 := HO2
  have H4 := Lib.hid (And.intro (below_next H3.out.1 hb4) hb14)
  clear hb4 hb14 hby h b03 bl53
  go_wp2_with fail
  rw [H6.out] at HO2
  refine HO2.out.mono ?_
  rintro e w5 ⟨rfl, hb5⟩
  have HBF := Lib.hid (below_next H4.out.2 hb5)
  clear hb5
  go_wp2_with fail
  go_ret2
  exact ⟨rfl, HBF.out⟩
end
#print axioms begin_n4
#print axioms begin_n5
#print axioms begin_n6
end Go.Proofs.Ytkhgpeejmbfmjaa
/- The run begins: where no frame begins. -/
namespace Go.Proofs.Ytkhgpeejmbfmjaa
open Go.RowKit
set_option linter.unusedSimpArgs false
set_option linter.unusedVariables false
set_option maxRecDepth 100000
section
variable {w0 W : World} {X : Sx} {rb : Nat} {fgs : List Nat} {c : Nat} {s : Mc} {K : Nat → Prop} {fg : Nat}

theorem s7_of {w : World} {t5 : Nat} {a0 a1 a2 a3 c0 c1 c2 : Value} (h : Blk w t5 [a0, a1, a2, a3]) (k : Blk w (t5 + 1) [c0, c1, c2]) : w.cell? ⟨t5, 0, none⟩ = some a0 ∧ w.cell? ⟨t5, 1, none⟩ = some a1 ∧ w.cell? ⟨t5, 2, none⟩ = some a2 ∧ w.cell? ⟨t5, 3, none⟩ = some a3 ∧ w.cell? ⟨t5 + 1, 0, none⟩ = some c0 ∧ w.cell? ⟨t5 + 1, 1, none⟩ = some c1 ∧ w.cell? ⟨t5 + 1, 2, none⟩ = some c2 :=
  ⟨h.c 0 _ rfl, h.c 1 _ rfl, h.c 2 _ rfl, h.c 3 _ rfl, k.c 0 _ rfl, k.c 1 _ rfl, k.c 2 _ rfl⟩

set_option maxHeartbeats 8000000 in
theorem begin_n7 {Mg : Option Addr} {nmg cmg : Nat} {mgs : List V} {Aa : Option Addr} {na ca : Nat} {vs : List V} {Ab : Option Addr} {ng cb : Nat} {gs : List V} (h : Given W X Mg nmg cmg mgs Aa na vs Ab ng gs) (i : Int) (h1 : inB i ((X.nm : Int) - 1) = true) (h2 : inB X.l.fuel 1048576 = true) (h3 : inB X.l.stack 256 = true) (h4 : inB X.l.heap 1024 = true) (h5 : outB vs (X.m.at i.toNat).args = true) (h6 : outB gs X.m.gk = true) (h7 : newB (X.m.at i.toNat).args (X.m.at i.toNat).locs vs = false) :
    Calls Try.prog 13 #[modV X, .int .i64 i, .slice Aa na ca, .slice Ab ng cb, limV X.l] W fun e W' => e = .returned (.tuple #[.pointer none, .bool false]) ∧ Below W.heap.size W W' := by
  have hb0 : Below W.heap.size W ((W.alloc (.cells #[X.mg, .slice X.mp X.np X.cp, .slice X.mm X.nm X.cm, .int .i64 X.mi] 25)).alloc (.cells #[.int .i64 X.l.fuel, .int .i64 X.l.stack, .int .i64 X.l.heap] 33)) := ((Below.refl _ _).alloc (Nat.le_refl _) _).alloc (by simp) _
  have HB0 := Lib.hid hb0
  have hnm := h.md.nm
  have wn : IntKind.i64.wrap ((X.nm : Int) - 1) = (X.nm : Int) - 1 := IntWalk.i64_in _ (by omega)
  unfold modV limV
  have I1 := Lib.hid (in_say i ((X.nm : Int) - 1) h1)
  have I2 := Lib.hid (in_say X.l.fuel 1048576 h2)
  have I3 := Lib.hid (in_say X.l.stack 256 h3)
  have I4 := Lib.hid (in_say X.l.heap 1024 h4)
  obtain ⟨k, rfl, hk⟩ := inB_nat h1
  have hk2 : k < X.m.mts.length := by rw [h.md.ml]; exact hk
  obtain ⟨g, o, hmm, hgl, Ba, nb, cbb, Bl, nl, cl, Ac, nc, cc, rd, y1, y2, y3, m0, m1, -, -, -, -, -, -, hba, hbl, -, hnb, hnl, -, -⟩ := h.md.mts k hk2
  obtain ⟨x, hx⟩ : ∃ x, X.m.at k = x := ⟨_, rfl⟩
  have hxe : X.m.mts[k] = x := by rw [← hx, Md.at_eq hk2]
  rw [hxe] at hba hbl
  rw [Int.toNat_natCast, hx] at h5 h7
  have hkn : (k : Int) < (X.nm : Int) := by omega
  have hk0 : 0 ≤ (k : Int) := by omega
  obtain ⟨W1, t5, hW1, ht5, hb01, B5, B9⟩ : ∃ (W1 : World) (t5 : Nat), ((W.alloc (.cells #[X.mg, .slice X.mp X.np X.cp, .slice X.mm X.nm X.cm, .int .i64 X.mi] 25)).alloc (.cells #[.int .i64 X.l.fuel, .int .i64 X.l.stack, .int .i64 X.l.heap] 33)) = W1 ∧ W.heap.size = t5 ∧ Below W.heap.size W W1 ∧ Blk W1 t5 [X.mg, .slice X.mp X.np X.cp, .slice X.mm X.nm X.cm, .int .i64 X.mi] ∧ Blk W1 (t5 + 1) [.int .i64 X.l.fuel, .int .i64 X.l.stack, .int .i64 X.l.heap] := by
    refine ⟨_, _, rfl, rfl, hb0, (Blk.new W _ 25).alloc _, ?_⟩
    have := Blk.new (W.alloc (.cells #[X.mg, .slice X.mp X.np X.cp, .slice X.mm X.nm X.cm, .int .i64 X.mi] 25)) #[.int .i64 X.l.fuel, .int .i64 X.l.stack, .int .i64 X.l.heap] 33
    simpa using this
  rw [h.mg, hmm] at hW1
  have HMM := Lib.hid hmm
  have HGL := Lib.hid (And.intro hgl (And.intro m0 m1))
  obtain ⟨hn, hhn, hhn2⟩ : ∃ n : Nat, X.l.heap = n ∧ n ≤ 1024 := by have := of_decide_eq_true h4; exact ⟨X.l.heap.toNat, by omega, by omega⟩
  have HHN := Lib.hid (And.intro hhn hhn2)
  have HE := Lib.hid (And.intro hW1 ht5)
  have H0 := Lib.hid (And.intro h (And.intro hb01 (And.intro B5 (And.intro B9 (And.intro hba hbl)))))
  have HO1 := Lib.hid (outside_any Aa Ba na ca nb cbb vs x.args W1 (h.va.below hb01) (hba.below hb01) (by have := h.na; omega) (by omega))
  rw [h5] at HO1
  have n0 : W1.cell? ⟨g, o + k * 8, none⟩ = some (.slice Ba nb cbb) := (hb01.cell (p := ⟨g, _, none⟩) hgl).trans m0
  have n1 : W1.cell? ⟨g, o + k * 8 + 1, none⟩ = some (.slice Bl nl cl) := (hb01.cell (p := ⟨g, _, none⟩) hgl).trans m1
  have gl1 : g < W1.heap.size := Nat.lt_of_lt_of_le hgl hb01.size
  have b0 : W1.cell? ⟨t5, 0, none⟩ = some (.slice Mg nmg cmg) := by rw [← h.mg]; exact B5.c 0 _ rfl
  have b2 : W1.cell? ⟨t5, 2, none⟩ = some (.slice (some ⟨g, o, none⟩) X.nm X.cm) := by rw [← hmm]; exact B5.c 2 _ rfl
  have bl5 := B5.l
  rw [h.mg, hmm]
  have H6 := Lib.hid h6
  have H7 := Lib.hid h7
  clear hhn hhn2 hb0 HB0 h hnm hk hk2 hx hxe hba hbl hmm hgl m0 m1 hW1 ht5 hb01 B5 B9 h1 h2 h3 h4 h5 h6 h7
  go_enter Try.func13, Try.ntmps13
  go_wp2_with fail
  refine (I1.out _).mono ?_
  rintro e w2 ⟨rfl, rfl⟩
  go_wp2_with fail
  refine (I2.out _).mono ?_
  rintro e w2 ⟨rfl, rfl⟩
  go_wp2_with fail
  refine (I3.out _).mono ?_
  rintro e w2 ⟨rfl, rfl⟩
  go_wp2_with fail
  refine (I4.out _).mono ?_
  rintro e w2 ⟨rfl, rfl⟩
  rw [HE.out.1, HE.out.2]
  clear HE
  go_wp2_with fail
  refine HO1.out.mono ?_
  rintro e w3 ⟨rfl, hb3⟩
  have h := H0.out.1
  have hb13 := below_next H0.out.2.1 hb3
  have HK := Lib.hid (kinds_any Mg nmg cmg mgs w3 (h.vm.below hb13) (by have := h.nmg; omega))
  have b03 : w3.cell? ⟨t5, 0, none⟩ = some (.slice Mg nmg cmg) := (hb3.cell (p := ⟨t5, 0, none⟩) bl5).trans b0
  have bl53 : t5 < w3.heap.size := Nat.lt_of_lt_of_le bl5 hb3.size
  have H3 := Lib.hid (And.intro hb3 hb13)
  clear hb3 hb13 h
  go_wp2_with fail
  refine HK.out.mono ?_
  rintro e w4 ⟨A4, c4, rfl, hb4, hby⟩
  have h := H0.out.1
  have hb14 := below_next H3.out.2 hb4
  have HO2 := Lib.hid (outside_any Ab A4 ng cb nmg c4 gs (mgs.map (·.1)) w4 (h.vg.below hb14) hby (by have := h.ng; omega) (by have := h.nmg; omega))
  rw [← h.gk] at HO2
  have HO2 := HO2
  have H4 := Lib.hid (And.intro (below_next H3.out.1 hb4) hb14)
  clear hb4 hb14 hby h b03 bl53
  go_wp2_with fail
  rw [H6.out] at HO2
  refine HO2.out.mono ?_
  rintro e w5 ⟨rfl, hb5⟩
  have h := H0.out.1
  have hb15 := below_next H4.out.1 hb5
  have hb05 := below_next H4.out.2 hb5
  have B5 := H0.out.2.2.1.below hb15
  have B9 := H0.out.2.2.2.1.below hb15
  have HCL : Hid (∀ V, Below w5.heap.size w5 V → Calls Try.prog 16 #[.slice Ab ng cb] V fun e w' => CloneV V ng gs e w') := Lib.hid (fun V hb => clone_any Ab ng cb gs V (h.vg.below (below_next hb05 hb)) (by have := h.ng; omega))
  rw [h.mg, (show X.mm = some ⟨g, o, none⟩ from HMM.out)] at B5
  have hk5 := s7_of B5.drew B9.drew
  have HK5 := Lib.hid (And.intro B5 B9)
  have H5 := Lib.hid (And.intro hb15 hb05)
  have sc0 := B5.c 0 _ rfl
  clear hb5 hb15 hb05 h B5 B9 sc0
  go_upto_region 5 with fail
  go_region_held3 (fun w' => w'.cell? ⟨t5, 0, none⟩ = some (.slice Mg nmg cmg) ∧ w'.cell? ⟨t5, 1, none⟩ = some (.slice X.mp X.np X.cp) ∧ w'.cell? ⟨t5, 2, none⟩ = some (.slice (some ⟨g, o, none⟩) X.nm X.cm) ∧ w'.cell? ⟨t5, 3, none⟩ = some (.int .i64 X.mi) ∧
      w'.cell? ⟨t5 + 1, 0, none⟩ = some (.int .i64 X.l.fuel) ∧ w'.cell? ⟨t5 + 1, 1, none⟩ = some (.int .i64 X.l.stack) ∧ w'.cell? ⟨t5 + 1, 2, none⟩ = some (.int .i64 X.l.heap))
    ((first | (with_reducible exact s7_of (HK6.out.1.alloc _) (HK6.out.2.alloc _)) | (with_reducible exact s7_of HK6.out.1 HK6.out.2) | (with_reducible exact hk5) | fail))
    (first
      | (go_at_call 16; refine (HCL.out _ (by with_reducible exact below_drew (Below.refl _ _))).mono ?_; rintro e w6 ⟨Ag, cg, rfl, hb6, hg6⟩
         have HK6 := Lib.hid (And.intro (HK5.out.1.drew.below hb6) (HK5.out.2.drew.below hb6))
         have HG6 := Lib.hid (And.intro hb6 hg6)
         clear hb6 hg6)
      | fail)
  go_upto_region 6 with fail
  obtain ⟨w7, hw7⟩ : ∃ V, (w6.alloc (.cells #[.slice Mg nmg cmg, .slice X.mp X.np X.cp, .slice (some ⟨g, o, none⟩) X.nm X.cm, .int .i64 X.mi, .slice none 0 0, .slice none 0 0, .pointer none, .slice Ag ng cg, .int .i64 X.l.fuel, .int .i64 X.l.stack, .int .i64 X.l.heap, .int .i64 0, .int .i64 0, .int .i64 0, .int .i64 0, .bool false, .int .i64 0, .int .u8 0, .int .i64 0, .int .i64 0] 58)) = V := ⟨_, rfl⟩
  have hb67 : Below w6.heap.size w6 w7 := by rw [← hw7]; exact (Below.refl _ _).alloc (Nat.le_refl _) _
  have B20 : Blk w7 w6.heap.size [.slice Mg nmg cmg, .slice X.mp X.np X.cp, .slice (some ⟨g, o, none⟩) X.nm X.cm, .int .i64 X.mi, .slice none 0 0, .slice none 0 0, .pointer none, .slice Ag ng cg, .int .i64 X.l.fuel, .int .i64 X.l.stack, .int .i64 X.l.heap, .int .i64 0, .int .i64 0, .int .i64 0, .int .i64 0, .bool false, .int .i64 0, .int .u8 0, .int .i64 0, .int .i64 0] := by rw [← hw7]; exact Blk.new _ _ _
  rw [hw7]
  clear hw7
  obtain ⟨rb, hrb⟩ : ∃ b, w6.heap.size = b := ⟨_, rfl⟩
  rw [hrb] at B20
  rw [hrb]
  have h92 := (HK6.out.2.below hb67).c 2 _ rfl
  have h9l := (HK6.out.2.below hb67).l
  have HNEW := Lib.hid (hx_new hn w7 HHN.out.2)
  rw [← HHN.out.1] at HNEW
  have H7w := Lib.hid (And.intro hb67 (And.intro hrb B20))
  clear hb67 hrb B20 hk5
  go_wp2_with fail
  refine HNEW.out.mono ?_
  rintro e w8 ⟨gh, gw, rfl, hH⟩
  have B208 := H7w.out.2.2.below hH.bw
  have x6 := B208.c 6 _ rfl
  have x6f := B208.f 6
  have xl := B208.l
  have HH8 := Lib.hid (And.intro hH B208)
  clear hH B208 h92 h9l
  go_upto_region 7 with fail
  obtain ⟨w9, hw9⟩ : ∃ V, w8.setCell ⟨rb, 6, none⟩ (.pointer (some ⟨gh, 0, none⟩)) = V := ⟨_, rfl⟩
  have t89 : Touch (fun b => b = rb) w8 w9 := by rw [← hw9]; exact (Touch.refl _ _).setCell _ _ (fun _ => rfl)
  have B209 : Blk w9 rb [.slice Mg nmg cmg, .slice X.mp X.np X.cp, .slice (some ⟨g, o, none⟩) X.nm X.cm, .int .i64 X.mi, .slice none 0 0, .slice none 0 0, .pointer (some ⟨gh, 0, none⟩), .slice Ag ng cg, .int .i64 X.l.fuel, .int .i64 X.l.stack, .int .i64 X.l.heap, .int .i64 0, .int .i64 0, .int .i64 0, .int .i64 0, .bool false, .int .i64 0, .int .u8 0, .int .i64 0, .int .i64 0] := by rw [← hw9]; exact HH8.out.2.set (j := 6) rfl _
  rw [hw9]
  clear hw9 x6 x6f xl
  have hrb6 := H7w.out.2.1
  have hb08 : Below W.heap.size W w8 := below_next (below_next (below_next (below_next H5.out.2 (below_drew (Below.refl _ _))) HG6.out.1) H7w.out.1) HH8.out.1.bw
  have hrbW : W.heap.size ≤ rb := by rw [← hrb6]; exact (below_next (below_next H5.out.2 (below_drew (Below.refl _ _))) HG6.out.1).size
  have hb09 : Below W.heap.size W w9 := hb08.trans (t89.below hb08.size (fun b e => by have e : b = rb := e; rw [e]; exact hrbW))
  have hgl := H0.out.1.md
  have hne5 : t5 ≠ rb := by have := HK6.out.1.l; omega
  have B58 := ((HK6.out.1.below H7w.out.1).below HH8.out.1.bw).touch t89 hne5
  have z2 := B58.c 2 _ rfl
  have q0 : w9.cell? ⟨g, o + k * 8, none⟩ = some (.slice Ba nb cbb) := (hb09.cell (p := ⟨g, _, none⟩) HGL.out.1).trans HGL.out.2.1
  have q1 : w9.cell? ⟨g, o + k * 8 + 1, none⟩ = some (.slice Bl nl cl) := (hb09.cell (p := ⟨g, _, none⟩) HGL.out.1).trans HGL.out.2.2
  have gl9 : g < w9.heap.size := Nat.lt_of_lt_of_le HGL.out.1 hb09.size
  have HS9 : Hid (∀ V, Below w9.heap.size w9 V → V.cell? ⟨t5, 2, none⟩ = some (.slice (some ⟨g, o, none⟩) X.nm X.cm) ∧ V.cell? ⟨g, o + k * 8, none⟩ = some (.slice Ba nb cbb) ∧ V.cell? ⟨g, o + k * 8 + 1, none⟩ = some (.slice Bl nl cl)) := Lib.hid (fun V hb => ⟨(hb.cell (p := ⟨t5, 2, none⟩) B58.l).trans z2, (hb.cell (p := ⟨g, _, none⟩) gl9).trans q0, (hb.cell (p := ⟨g, _, none⟩) gl9).trans q1⟩)
  have hk9 := HS9.out _ (below_drew (Below.refl _ _))
  have hbd : Below W.heap.size W w9.drew := below_drew hb09
  have HNW := Lib.hid (fo_new_no w9.drew Ba Bl Aa nb nl na cbb cl ca x.args x.locs vs (H0.out.2.2.2.2.1.below hbd) (H0.out.2.2.2.2.2.below hbd) (H0.out.1.va.below hbd) (by omega) (by omega) (by have := H0.out.1.na; omega) (by rw [← newB_iff, H7.out]; decide))
  have H9 := Lib.hid (And.intro t89 (And.intro B209 (And.intro hb08 (And.intro hrbW hb09))))
  clear t89 B209 hb08 hb09 hrbW hgl B58 hrb6 hne5 hbd
  go_region_held3 (fun V => V.cell? ⟨t5, 2, none⟩ = some (.slice (some ⟨g, o, none⟩) X.nm X.cm) ∧ V.cell? ⟨g, o + k * 8, none⟩ = some (.slice Ba nb cbb) ∧ V.cell? ⟨g, o + k * 8 + 1, none⟩ = some (.slice Bl nl cl))
    ((first | (with_reducible exact hk10) | (with_reducible exact hk9) | fail))
    (first
      | (go_at_call 21; refine HNW.out.mono ?_; rintro e w10 ⟨rfl, hb10⟩
         have hk10 := HS9.out _ (below_next (below_drew (Below.refl _ _)) hb10)
         have HB10 := Lib.hid hb10
         clear hb10)
      | fail)
  have HBF := Lib.hid (below_next (below_drew H9.out.2.2.2.2) HB10.out)
  go_wp2_with fail
  go_ret2
  exact ⟨rfl, HBF.out⟩
end
#print axioms s7_of
#print axioms begin_n7
end Go.Proofs.Ytkhgpeejmbfmjaa
