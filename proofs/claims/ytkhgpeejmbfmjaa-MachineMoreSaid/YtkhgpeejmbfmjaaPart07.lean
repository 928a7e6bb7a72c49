/- Parts of the walk, joined. -/
import Derived.Test.YtkhgpeejmbfmjaaPart06
import Derived.LoopTactic
/- The run in memory: move (locals, stores of globals). -/
namespace Go.Proofs.Ytkhgpeejmbfmjaa
open Go.RowKit
set_option linter.unusedSimpArgs false
set_option linter.unusedVariables false
set_option maxRecDepth 100000
section
variable {w0 W : World} {X : Sx} {rb : Nat} {fgs : List Nat} {c : Nat} {s : Mc} {K : Nat → Prop} {fg : Nat}

theorem move_2 (h : RunAt w0 W X rb fgs c s K) (hf : Topf fgs fg) (a b : Int) : Calls Try.prog 33 #[.pointer (some ⟨rb, 0, none⟩), .pointer (some ⟨fg, 0, none⟩), .agg #[.int .u8 2, .int .i64 a, .int .i64 b]] W fun e W' => e = .returned (.tuple #[]) ∧ RunK w0 W X rb fgs c (s.move X.m 2 a) K W' := by
  obtain ⟨W1, t5, K1, hW1, ht5, R1, k5, k6, B5, B6⟩ := first_two h #[.int .u8 2, .int .i64 a, .int .i64 b] 46 #[.int .u8 0, .int .i64 0, .int .i64 0] 29
  have hn5 : W.heap.size ≤ t5 := by omega
  have hn6 : W.heap.size ≤ t5 + 1 := by omega
  have HE := Lib.hid (And.intro hW1 ht5)
  have HP := Lib.hid (r_get R1.r hf a)
  have hgv := getV_ok R1.r hf a
  have HF := Lib.hid hf
  obtain ⟨⟨v0, v1, v2⟩, hv⟩ : ∃ v, getV s.top a = v := ⟨_, rfl⟩
  obtain ⟨q, hq⟩ : ∃ q, getB s.top a = q := ⟨_, rfl⟩
  have e : s.move X.m 2 a = if q && insideV (v0, v1, v2) then s.push (v0, v1, v2) else s.cant := by
    show (if (getB s.top a && insideV (if getB s.top a then getV s.top a else zv)) then s.push (if getB s.top a then getV s.top a else zv) else s.cant) = _
    rw [hq]
    cases q with
    | true => rw [hv]; rfl
    | false => rfl
  rw [e]
  rw [hv, hq] at HP
  rw [hv] at hgv
  have HV := Lib.hid hgv
  have HI := Lib.hid (fun V => inside_any (v0, v1, v2) V)
  have HR1 := Lib.hid (And.intro R1 (And.intro k6 B6))
  unfold vagg at HP HI
  dsimp only at HP HI
  have b0 := B5.c 0 _ rfl
  have b1 := B5.c 1 _ rfl
  have b2 := B5.c 2 _ rfl
  have lb := B5.l
  clear h hf hgv R1 k5 k6 B5 B6 hW1 ht5 e hv hq
  cases q with
  | false =>
    rw [Bool.false_and, if_neg (by decide)]
    go_enter Try.func33, Try.ntmps33
    go_wp2_with fail
    rw [HE.out.1, HE.out.2]
    clear HE
    go_wp2_with fail
    refine HP.out.mono ?_
    rintro e w2 ⟨rfl, hb⟩
    obtain ⟨R1, k6, B6⟩ := HR1.out
    obtain ⟨K2, R2, k2, -⟩ := R1.below hb
    have B62 := B6.below hb
    have s0 := B62.c 0 _ rfl
    have s1 := B62.c 1 _ rfl
    have s2 := B62.c 2 _ rfl
    have fs0 := B62.f 0
    have fs1 := B62.f 1
    have fs2 := B62.f 2
    have ls := B62.l
    have R3 := ((R2.set (k2 _ k6) hn6 0 (.int .u8 v0)).set (k2 _ k6) hn6 1 (.int .i64 v1)).set (k2 _ k6) hn6 2 (.int .i64 v2)
    have HC := Lib.hid (cant_at R3.r)
    have HR3 := Lib.hid R3
    clear hb R1 k6 B6 R2 k2 B62 R3 HR1
    go_wp2_with fail
    refine HC.out.mono ?_
    rintro e w3 ⟨rfl, hR⟩
    have HB := Lib.hid (HR3.out.call hR).done
    clear hR HR3
    go_wp2_with fail
    exact bodyPost_ret (v := .tuple #[]) (by simp [results, Try.results33, go_sem]) rfl ⟨rfl, HB.out⟩
  | true =>
    rw [Bool.true_and]
    cases hins : insideV (v0, v1, v2) with
    | true =>
      rw [hins] at HI
      rw [if_pos rfl]
      clear hins
      go_enter Try.func33, Try.ntmps33
      go_wp2_with fail
      rw [HE.out.1, HE.out.2]
      clear HE
      go_wp2_with fail
      refine HP.out.mono ?_
      rintro e w2 ⟨rfl, hb⟩
      obtain ⟨R1, k6, B6⟩ := HR1.out
      obtain ⟨K2, R2, k2, -⟩ := R1.below hb
      have B62 := B6.below hb
      have s0 := B62.c 0 _ rfl
      have s1 := B62.c 1 _ rfl
      have s2 := B62.c 2 _ rfl
      have fs0 := B62.f 0
      have fs1 := B62.f 1
      have fs2 := B62.f 2
      have ls := B62.l
      have R3 := ((R2.set (k2 _ k6) hn6 0 (.int .u8 v0)).set (k2 _ k6) hn6 1 (.int .i64 v1)).set (k2 _ k6) hn6 2 (.int .i64 v2)
      have B63 := ((B62.set (j := 0) rfl (.int .u8 v0)).set (j := 1) rfl (.int .i64 v1)).set (j := 2) rfl (.int .i64 v2)
      have HR3 := Lib.hid (And.intro R3 B63)
      have z0 := B63.c 0 _ rfl
      have z1 := B63.c 1 _ rfl
      have z2 := B63.c 2 _ rfl
      clear hb R1 k6 B6 R2 k2 B62 R3 B63 HR1
      go_wp2_with fail
      refine (HI.out _).mono ?_
      rintro e w3 ⟨rfl, hb⟩
      obtain ⟨R3, B63⟩ := HR3.out
      obtain ⟨K4, R4, k4, -⟩ := R3.below hb
      have B64 := B63.below hb
      have y0 := B64.c 0 _ rfl
      have y1 := B64.c 1 _ rfl
      have y2 := B64.c 2 _ rfl
      have yl := B64.l
      have HC := Lib.hid (push_at R4.r HF.out (v0, v1, v2) HV.out)
      unfold vagg at HC
      dsimp only at HC
      have HR4 := Lib.hid R4
      clear hb R3 B63 R4 k4 B64 HR3 z0 z1 z2
      go_wp2_with fail
      refine HC.out.mono ?_
      rintro e w4 ⟨rfl, hR⟩
      have HB := Lib.hid (HR4.out.call hR).done
      clear hR HR4
      go_wp2_with fail
      go_end0
      exact ⟨rfl, HB.out⟩
    | false =>
      rw [hins] at HI
      rw [if_neg (by decide)]
      clear hins
      go_enter Try.func33, Try.ntmps33
      go_wp2_with fail
      rw [HE.out.1, HE.out.2]
      clear HE
      go_wp2_with fail
      refine HP.out.mono ?_
      rintro e w2 ⟨rfl, hb⟩
      obtain ⟨R1, k6, B6⟩ := HR1.out
      obtain ⟨K2, R2, k2, -⟩ := R1.below hb
      have B62 := B6.below hb
      have s0 := B62.c 0 _ rfl
      have s1 := B62.c 1 _ rfl
      have s2 := B62.c 2 _ rfl
      have fs0 := B62.f 0
      have fs1 := B62.f 1
      have fs2 := B62.f 2
      have ls := B62.l
      have R3 := ((R2.set (k2 _ k6) hn6 0 (.int .u8 v0)).set (k2 _ k6) hn6 1 (.int .i64 v1)).set (k2 _ k6) hn6 2 (.int .i64 v2)
      have B63 := ((B62.set (j := 0) rfl (.int .u8 v0)).set (j := 1) rfl (.int .i64 v1)).set (j := 2) rfl (.int .i64 v2)
      have HR3 := Lib.hid (And.intro R3 B63)
      have z0 := B63.c 0 _ rfl
      have z1 := B63.c 1 _ rfl
      have z2 := B63.c 2 _ rfl
      clear hb R1 k6 B6 R2 k2 B62 R3 B63 HR1
      go_wp2_with fail
      refine (HI.out _).mono ?_
      rintro e w3 ⟨rfl, hb⟩
      obtain ⟨R3, B63⟩ := HR3.out
      obtain ⟨K4, R4, k4, -⟩ := R3.below hb
      have B64 := B63.below hb
      have y0 := B64.c 0 _ rfl
      have y1 := B64.c 1 _ rfl
      have y2 := B64.c 2 _ rfl
      have yl := B64.l
      have HC := Lib.hid (cant_at R4.r)
      have HR4 := Lib.hid R4
      clear hb R3 B63 R4 k4 B64 HR3 z0 z1 z2
      go_wp2_with fail
      refine HC.out.mono ?_
      rintro e w4 ⟨rfl, hR⟩
      have HB := Lib.hid (HR4.out.call hR).done
      clear hR HR4
      go_wp2_with fail
      exact bodyPost_ret (v := .tuple #[]) (by simp [results, Try.results33, go_sem]) rfl ⟨rfl, HB.out⟩

theorem move_3 (h : RunAt w0 W X rb fgs c s K) (hf : Topf fgs fg) (a b : Int) : Calls Try.prog 33 #[.pointer (some ⟨rb, 0, none⟩), .pointer (some ⟨fg, 0, none⟩), .agg #[.int .u8 3, .int .i64 a, .int .i64 b]] W fun e W' => e = .returned (.tuple #[]) ∧ RunK w0 W X rb fgs c (s.move X.m 3 a) K W' := by
  obtain ⟨W1, t5, K1, hW1, ht5, R1, k5, k6, B5, B6⟩ := first_two h #[.int .u8 3, .int .i64 a, .int .i64 b] 46 #[.int .u8 0, .int .i64 0, .int .i64 0] 29
  have hn5 : W.heap.size ≤ t5 := by omega
  have hn6 : W.heap.size ≤ t5 + 1 := by omega
  have HE := Lib.hid (And.intro hW1 ht5)
  have HP := Lib.hid (pop_at R1.r hf 0 (by omega))
  have hpv := pop_ok R1.r hf 0
  have HF := Lib.hid hf
  obtain ⟨⟨⟨v0, v1, v2⟩, s1⟩, hv⟩ : ∃ p, s.pop 0 = p := ⟨_, rfl⟩
  rw [hv] at HP hpv
  have HV := Lib.hid hpv
  unfold vagg at HP
  dsimp only at HP HV hpv
  obtain ⟨q, hq⟩ : ∃ q, setB s1.top a (v0, v1, v2) = q := ⟨_, rfl⟩
  obtain ⟨s2, hs2⟩ : ∃ x, s1.upd (setF s1.top a (v0, v1, v2)) = x := ⟨_, rfl⟩
  have e : s.move X.m 3 a = if s1.e = 0 then (if q then s2 else s1.cant) else s1 := by
    show (if (s.pop 0).2.e = 0 then (if setB (s.pop 0).2.top a (s.pop 0).1 then (s.pop 0).2.upd (setF (s.pop 0).2.top a (s.pop 0).1) else (s.pop 0).2.cant) else (s.pop 0).2) = _
    rw [hv]
    dsimp only
    rw [hq, hs2]
  rw [e]
  have HQ := Lib.hid (And.intro hq hs2)
  have HR1 := Lib.hid (And.intro R1 (And.intro k5 (And.intro B5 (And.intro k6 B6))))
  have b0 := B5.c 0 _ rfl
  have b1 := B5.c 1 _ rfl
  have b2 := B5.c 2 _ rfl
  have lb := B5.l
  clear h hf hpv R1 k5 k6 B5 B6 hW1 ht5 e hv hq hs2
  by_cases he : s1.e = 0
  · rw [if_pos he]
    have HH := Lib.hid he
    clear he
    cases q with
    | true =>
      rw [if_pos rfl]
      go_enter Try.func33, Try.ntmps33
      go_wp2_with fail
      rw [HE.out.1, HE.out.2]
      clear HE
      go_wp2_with fail
      refine HP.out.mono ?_
      rintro e w2 ⟨rfl, hR⟩
      obtain ⟨R1, k5, B5, k6, B6⟩ := HR1.out
      have R2 := R1.call hR
      have B52 := B5.keep hR.2 k5
      have B62 := B6.keep hR.2 k6
      have d0 := B62.c 0 _ rfl
      have d1 := B62.c 1 _ rfl
      have d2 := B62.c 2 _ rfl
      have fd0 := B62.f 0
      have fd1 := B62.f 1
      have fd2 := B62.f 2
      have ld := B62.l
      have x0 := B52.c 0 _ rfl
      have x1 := B52.c 1 _ rfl
      have x2 := B52.c 2 _ rfl
      have lx := B52.l
      have R3 := ((R2.set k6 hn6 0 (.int .u8 v0)).set k6 hn6 1 (.int .i64 v1)).set k6 hn6 2 (.int .i64 v2)
      have B63 := ((B62.set (j := 0) rfl (.int .u8 v0)).set (j := 1) rfl (.int .i64 v1)).set (j := 2) rfl (.int .i64 v2)
      have B53 := ((B52.other (b' := t5 + 1) (by omega) 0 (.int .u8 v0)).other (b' := t5 + 1) (by omega) 1 (.int .i64 v1)).other (b' := t5 + 1) (by omega) 2 (.int .i64 v2)
      have c14 := R2.r.c14
      have rl := R2.r.rbl
      rw [HH.out] at c14
      have HC := Lib.hid (r_set R3.r HF.out a (v0, v1, v2) HV.out)
      rw [HQ.out.1, HQ.out.2] at HC
      unfold vagg at HC
      dsimp only at HC
      have HR3 := Lib.hid R3
      have z0 := B63.c 0 _ rfl
      have z1 := B63.c 1 _ rfl
      have z2 := B63.c 2 _ rfl
      have hne5 : ¬ t5 = t5 + 1 := by omega
      clear hR R1 k5 B5 k6 B6 R2 B52 B62 R3 B63 B53 HR1
      go_wp2_with fail
      refine HC.out.mono ?_
      rintro e w3 ⟨rfl, hR⟩
      have HB := Lib.hid (HR3.out.call hR).done
      clear hR HR3
      go_wp2_with fail
      exact bodyPost_ret (v := .tuple #[]) (by simp [results, Try.results33, go_sem]) rfl ⟨rfl, HB.out⟩
    | false =>
      rw [if_neg (by decide)]
      go_enter Try.func33, Try.ntmps33
      go_wp2_with fail
      rw [HE.out.1, HE.out.2]
      clear HE
      go_wp2_with fail
      refine HP.out.mono ?_
      rintro e w2 ⟨rfl, hR⟩
      obtain ⟨R1, k5, B5, k6, B6⟩ := HR1.out
      have R2 := R1.call hR
      have B52 := B5.keep hR.2 k5
      have B62 := B6.keep hR.2 k6
      have d0 := B62.c 0 _ rfl
      have d1 := B62.c 1 _ rfl
      have d2 := B62.c 2 _ rfl
      have fd0 := B62.f 0
      have fd1 := B62.f 1
      have fd2 := B62.f 2
      have ld := B62.l
      have x0 := B52.c 0 _ rfl
      have x1 := B52.c 1 _ rfl
      have x2 := B52.c 2 _ rfl
      have lx := B52.l
      have R3 := ((R2.set k6 hn6 0 (.int .u8 v0)).set k6 hn6 1 (.int .i64 v1)).set k6 hn6 2 (.int .i64 v2)
      have B63 := ((B62.set (j := 0) rfl (.int .u8 v0)).set (j := 1) rfl (.int .i64 v1)).set (j := 2) rfl (.int .i64 v2)
      have B53 := ((B52.other (b' := t5 + 1) (by omega) 0 (.int .u8 v0)).other (b' := t5 + 1) (by omega) 1 (.int .i64 v1)).other (b' := t5 + 1) (by omega) 2 (.int .i64 v2)
      have c14 := R2.r.c14
      have rl := R2.r.rbl
      rw [HH.out] at c14
      have HC := Lib.hid (r_set R3.r HF.out a (v0, v1, v2) HV.out)
      have hsf : s1.upd (setF s1.top a (v0, v1, v2)) = s1 := by unfold setF; rw [if_neg (by rw [HQ.out.1]; decide), upd_top (R2.r.ne HF.out)]
      rw [HQ.out.1, hsf] at HC
      unfold vagg at HC
      dsimp only at HC
      have HR3 := Lib.hid R3
      have z0 := B63.c 0 _ rfl
      have z1 := B63.c 1 _ rfl
      have z2 := B63.c 2 _ rfl
      have hne5 : ¬ t5 = t5 + 1 := by omega
      clear hR R1 k5 B5 k6 B6 R2 B52 B62 R3 B63 B53 HR1 hsf
      go_wp2_with fail
      refine HC.out.mono ?_
      rintro e w3 ⟨rfl, hR⟩
      have R4 := HR3.out.call hR
      have HC2 := Lib.hid (cant_at R4.r)
      have HR4 := Lib.hid R4
      clear hR HR3 R4
      go_wp2_with fail
      refine HC2.out.mono ?_
      rintro e w4 ⟨rfl, hR⟩
      have HB := Lib.hid (HR4.out.call hR).done
      clear hR HR4
      go_wp2_with fail
      exact bodyPost_ret (v := .tuple #[]) (by simp [results, Try.results33, go_sem]) rfl ⟨rfl, HB.out⟩
  · rw [if_neg he]
    have hq : (s1.e == 0) = false := by rw [beq_eq_false_iff_ne]; exact he
    clear he
    go_enter Try.func33, Try.ntmps33
    go_wp2_with fail
    rw [HE.out.1, HE.out.2]
    clear HE
    go_wp2_with fail
    refine HP.out.mono ?_
    rintro e w2 ⟨rfl, hR⟩
    obtain ⟨R1, k5, B5, k6, B6⟩ := HR1.out
    have R2 := R1.call hR
    have B52 := B5.keep hR.2 k5
    have B62 := B6.keep hR.2 k6
    have d0 := B62.c 0 _ rfl
    have d1 := B62.c 1 _ rfl
    have d2 := B62.c 2 _ rfl
    have fd0 := B62.f 0
    have fd1 := B62.f 1
    have fd2 := B62.f 2
    have ld := B62.l
    have x0 := B52.c 0 _ rfl
    have x1 := B52.c 1 _ rfl
    have x2 := B52.c 2 _ rfl
    have lx := B52.l
    have R3 := ((R2.set k6 hn6 0 (.int .u8 v0)).set k6 hn6 1 (.int .i64 v1)).set k6 hn6 2 (.int .i64 v2)
    have B63 := ((B62.set (j := 0) rfl (.int .u8 v0)).set (j := 1) rfl (.int .i64 v1)).set (j := 2) rfl (.int .i64 v2)
    have B53 := ((B52.other (b' := t5 + 1) (by omega) 0 (.int .u8 v0)).other (b' := t5 + 1) (by omega) 1 (.int .i64 v1)).other (b' := t5 + 1) (by omega) 2 (.int .i64 v2)
    have c14 := R2.r.c14
    have rl := R2.r.rbl
    have HB := Lib.hid R3.done
    clear hR R1 k5 B5 k6 B6 R2 B52 B62 R3 B63 B53 HR1
    go_wp2_with fail
    exact bodyPost_ret (v := .tuple #[]) (by simp [results, Try.results33, go_sem]) rfl ⟨rfl, HB.out⟩

theorem move_5 (h : RunAt w0 W X rb fgs c s K) (hf : Topf fgs fg) (a b : Int) : Calls Try.prog 33 #[.pointer (some ⟨rb, 0, none⟩), .pointer (some ⟨fg, 0, none⟩), .agg #[.int .u8 5, .int .i64 a, .int .i64 b]] W fun e W' => e = .returned (.tuple #[]) ∧ RunK w0 W X rb fgs c (s.move X.m 5 a) K W' := by
  obtain ⟨W1, t5, K1, hW1, ht5, R1, k5, k6, B5, B6⟩ := first_two h #[.int .u8 5, .int .i64 a, .int .i64 b] 46 #[.int .u8 0, .int .i64 0, .int .i64 0] 29
  have hn5 : W.heap.size ≤ t5 := by omega
  have hn6 : W.heap.size ≤ t5 + 1 := by omega
  have HE := Lib.hid (And.intro hW1 ht5)
  have HP := Lib.hid (pop_at R1.r hf 0 (by omega))
  have hpv := pop_ok R1.r hf 0
  have HF := Lib.hid hf
  obtain ⟨⟨⟨v0, v1, v2⟩, s1⟩, hv⟩ : ∃ p, s.pop 0 = p := ⟨_, rfl⟩
  rw [hv] at HP hpv
  have HV := Lib.hid hpv
  unfold vagg at HP
  dsimp only at HP HV hpv
  obtain ⟨n, hn⟩ : ∃ n, s1.gl.length = n := ⟨_, rfl⟩
  have e : s.move X.m 5 a = if s1.e ≠ 0 ∨ inB a ((n : Int) - 1) = false ∨ (s1.gl[a.toNat]?.getD zv).1 ≠ v0 then s1.cant else { s1 with gl := s1.gl.set a.toNat (v0, v1, v2) } := by
    show (if (s.pop 0).2.e ≠ 0 ∨ inB a ((s.pop 0).2.gl.length - 1) = false ∨ ((s.pop 0).2.gl[a.toNat]?.getD zv).1 ≠ (s.pop 0).1.1 then (s.pop 0).2.cant else { (s.pop 0).2 with gl := (s.pop 0).2.gl.set a.toNat (s.pop 0).1 }) = _
    rw [hv]
    dsimp only
    rw [hn]
  rw [e]
  have HN := Lib.hid hn
  have HR1 := Lib.hid (And.intro R1 (And.intro k5 (And.intro B5 (And.intro k6 B6))))
  have b0 := B5.c 0 _ rfl
  have b1 := B5.c 1 _ rfl
  have b2 := B5.c 2 _ rfl
  have lb := B5.l
  clear h hf hpv R1 k5 k6 B5 B6 hW1 ht5 e hv hn
  by_cases he : s1.e = 0
  · have HH := Lib.hid he
    cases hin : inB a ((n : Int) - 1) with
    | false =>
      rw [if_pos (.inr (.inl rfl))]
      have HIN : Hid (∀ V, Calls Try.prog 17 #[.int .i64 a, .int .i64 ((n : Int) - 1)] V fun e V' => e = .returned (.bool false) ∧ V' = V) := Lib.hid (fun V => by rw [← hin]; exact in_any _ _ _)
      clear he hin
      go_enter Try.func33, Try.ntmps33
      go_wp2_with fail
      rw [HE.out.1, HE.out.2]
      clear HE
      go_wp2_with fail
      refine HP.out.mono ?_
      rintro e w2 ⟨rfl, hR⟩
      obtain ⟨R1, k5, B5, k6, B6⟩ := HR1.out
      have R2 := R1.call hR
      have B52 := B5.keep hR.2 k5
      have B62 := B6.keep hR.2 k6
      have d0 := B62.c 0 _ rfl
      have d1 := B62.c 1 _ rfl
      have d2 := B62.c 2 _ rfl
      have fd0 := B62.f 0
      have fd1 := B62.f 1
      have fd2 := B62.f 2
      have ld := B62.l
      have x0 := B52.c 0 _ rfl
      have x1 := B52.c 1 _ rfl
      have x2 := B52.c 2 _ rfl
      have lx := B52.l
      have R3 := ((R2.set k6 hn6 0 (.int .u8 v0)).set k6 hn6 1 (.int .i64 v1)).set k6 hn6 2 (.int .i64 v2)
      have B63 := ((B62.set (j := 0) rfl (.int .u8 v0)).set (j := 1) rfl (.int .i64 v1)).set (j := 2) rfl (.int .i64 v2)
      have B53 := ((B52.other (b' := t5 + 1) (by omega) 0 (.int .u8 v0)).other (b' := t5 + 1) (by omega) 1 (.int .i64 v1)).other (b' := t5 + 1) (by omega) 2 (.int .i64 v2)
      have c14 := R2.r.c14
      have rl := R2.r.rbl
      obtain ⟨Ag, cg, cS, -⟩ := R3.r.gls
      have hnb := R3.r.ok.gn
      rw [HN.out] at cS hnb
      have wn : IntKind.i64.wrap ((n : Int) - 1) = (n : Int) - 1 := IntWalk.i64_in _ (by omega)
      have c14 := R3.r.c14
      rw [HH.out] at c14
      have rl3 := R3.r.rbl
      have z0 := B63.c 0 _ rfl
      have z1 := B63.c 1 _ rfl
      have z2 := B63.c 2 _ rfl
      have w0' := B53.c 0 _ rfl
      have w1' := B53.c 1 _ rfl
      have w2' := B53.c 2 _ rfl
      have lz := B63.l
      have lw := B53.l
      obtain ⟨w3, hw3⟩ : ∃ V, (((w2.setCell ⟨t5 + 1, 0, none⟩ (.int .u8 v0)).setCell ⟨t5 + 1, 1, none⟩ (.int .i64 v1)).setCell ⟨t5 + 1, 2, none⟩ (.int .i64 v2)) = V := ⟨_, rfl⟩
      rw [hw3] at cS c14 rl3 z0 z1 z2 w0' w1' w2' lz lw R3
      have HW3 := Lib.hid hw3
      have HR3 := Lib.hid R3
      clear hR R1 k5 B5 k6 B6 R2 B52 B62 R3 B63 B53 HR1 hw3
      go_upto_region 5 with fail
      rw [HW3.out]
      clear HW3
      clear d0 d1 d2 fd0 fd1 fd2 ld x0 x1 x2 lx
      go_quiet ((go_at_call 17; exact Calls.quiet_of_same (HIN.out _)))
      rename_i nq
      have R4 := HR3.out.drewN nq
      have HC := Lib.hid (cant_at R4.r)
      have HR4 := Lib.hid R4
      clear R4 HR3
      go_wp2_with fail
      refine HC.out.mono ?_
      rintro e w4 ⟨rfl, hR⟩
      have HB := Lib.hid (HR4.out.call hR).done
      clear hR HR4
      go_wp2_with fail
      exact bodyPost_ret (v := .tuple #[]) (by simp [results, Try.results33, go_sem]) rfl ⟨rfl, HB.out⟩
    | true =>
      obtain ⟨k, rfl, hk⟩ := inB_nat hin
      have hk2 : k < s1.gl.length := by rw [HN.out]; exact hk
      have HIN : Hid (∀ V, Calls Try.prog 17 #[.int .i64 (k : Int), .int .i64 ((n : Int) - 1)] V fun e V' => e = .returned (.bool true) ∧ V' = V) := Lib.hid (fun V => by rw [← hin]; exact in_any _ _ _)
      obtain ⟨⟨u0, u1, u2⟩, hu⟩ : ∃ u, s1.gl[k] = u := ⟨_, rfl⟩
      have hgu : s1.gl[(k : Int).toNat]?.getD zv = (u0, u1, u2) := by rw [Int.toNat_natCast, List.getElem?_eq_getElem hk2, Option.getD_some, hu]
      have HU : Hid (∃ h : k < s1.gl.length, s1.gl[k] = (u0, u1, u2)) := Lib.hid ⟨hk2, hu⟩
      have hkz : (k : Int) < (n : Int) := by omega
      rw [hgu]
      by_cases hkd : u0 = v0
      · rw [if_neg (by intro x; rcases x with x | x | x; exact x he; exact absurd x (by decide); exact x hkd)]
        have hkq : (u0 != v0) = false := by simp [hkd]
        clear he hin hk2 hu hgu hkd
        rw [Int.toNat_natCast]
        go_enter Try.func33, Try.ntmps33
        go_wp2_with fail
        rw [HE.out.1, HE.out.2]
        clear HE
        go_wp2_with fail
        refine HP.out.mono ?_
        rintro e w2 ⟨rfl, hR⟩
        obtain ⟨R1, k5, B5, k6, B6⟩ := HR1.out
        have R2 := R1.call hR
        have B52 := B5.keep hR.2 k5
        have B62 := B6.keep hR.2 k6
        have d0 := B62.c 0 _ rfl
        have d1 := B62.c 1 _ rfl
        have d2 := B62.c 2 _ rfl
        have fd0 := B62.f 0
        have fd1 := B62.f 1
        have fd2 := B62.f 2
        have ld := B62.l
        have x0 := B52.c 0 _ rfl
        have x1 := B52.c 1 _ rfl
        have x2 := B52.c 2 _ rfl
        have lx := B52.l
        have R3 := ((R2.set k6 hn6 0 (.int .u8 v0)).set k6 hn6 1 (.int .i64 v1)).set k6 hn6 2 (.int .i64 v2)
        have B63 := ((B62.set (j := 0) rfl (.int .u8 v0)).set (j := 1) rfl (.int .i64 v1)).set (j := 2) rfl (.int .i64 v2)
        have B53 := ((B52.other (b' := t5 + 1) (by omega) 0 (.int .u8 v0)).other (b' := t5 + 1) (by omega) 1 (.int .i64 v1)).other (b' := t5 + 1) (by omega) 2 (.int .i64 v2)
        have c14 := R2.r.c14
        have rl := R2.r.rbl
        obtain ⟨hk2, hu⟩ := HU.out
        obtain ⟨gb, cg, cS, gl3, gf, g0, g1, g2, hgk, hset⟩ := R3.r.setGl hk2 (v0, v1, v2) HV.out
        have hnb := R3.r.ok.gn
        rw [HN.out] at cS hnb
        rw [hu] at g0 g1 g2
        dsimp only at g0 g1 g2
        have gf0 := gf (k * 3)
        have gf1 := gf (k * 3 + 1)
        have gf2 := gf (k * 3 + 2)
        have wn : IntKind.i64.wrap ((n : Int) - 1) = (n : Int) - 1 := IntWalk.i64_in _ (by omega)
        have c14 := R3.r.c14
        rw [HH.out] at c14
        have rl3 := R3.r.rbl
        have z0 := B63.c 0 _ rfl
        have z1 := B63.c 1 _ rfl
        have z2 := B63.c 2 _ rfl
        have w0' := B53.c 0 _ rfl
        have w1' := B53.c 1 _ rfl
        have w2' := B53.c 2 _ rfl
        have lz := B63.l
        have lw := B53.l
        obtain ⟨w3, hw3⟩ : ∃ V, (((w2.setCell ⟨t5 + 1, 0, none⟩ (.int .u8 v0)).setCell ⟨t5 + 1, 1, none⟩ (.int .i64 v1)).setCell ⟨t5 + 1, 2, none⟩ (.int .i64 v2)) = V := ⟨_, rfl⟩
        rw [hw3] at cS c14 rl3 z0 z1 z2 w0' w1' w2' lz lw R3 gl3 gf0 gf1 gf2 g0 g1 g2 hset
        have HW3 := Lib.hid hw3
        have HR3 := Lib.hid R3
        have hset := Lib.hid hset
        clear hR R1 k5 B5 k6 B6 R2 B52 B62 R3 B63 B53 HR1 hw3 gf hk2 hgk hu
        go_upto_region 5 with fail
        rw [HW3.out]
        clear HW3
        clear d0 d1 d2 fd0 fd1 fd2 ld x0 x1 x2 lx

        go_quiet ((go_at_call 17; exact Calls.quiet_of_same (HIN.out _)))
        rename_i nq
        go_wp2_with fail
        go_region
        have HB := Lib.hid (HR3.out.call (hset.out (nq + 1))).done
        clear HR3 hset
        go_wp2_with fail
        exact bodyPost_ret (v := .tuple #[]) (by simp [results, Try.results33, go_sem]) rfl ⟨rfl, HB.out⟩
      · rw [if_pos (.inr (.inr hkd))]
        have hkq : (u0 != v0) = true := by simpa using hkd
        clear he hin hk2 hu hgu hkd
        go_enter Try.func33, Try.ntmps33
        go_wp2_with fail
        rw [HE.out.1, HE.out.2]
        clear HE
        go_wp2_with fail
        refine HP.out.mono ?_
        rintro e w2 ⟨rfl, hR⟩
        obtain ⟨R1, k5, B5, k6, B6⟩ := HR1.out
        have R2 := R1.call hR
        have B52 := B5.keep hR.2 k5
        have B62 := B6.keep hR.2 k6
        have d0 := B62.c 0 _ rfl
        have d1 := B62.c 1 _ rfl
        have d2 := B62.c 2 _ rfl
        have fd0 := B62.f 0
        have fd1 := B62.f 1
        have fd2 := B62.f 2
        have ld := B62.l
        have x0 := B52.c 0 _ rfl
        have x1 := B52.c 1 _ rfl
        have x2 := B52.c 2 _ rfl
        have lx := B52.l
        have R3 := ((R2.set k6 hn6 0 (.int .u8 v0)).set k6 hn6 1 (.int .i64 v1)).set k6 hn6 2 (.int .i64 v2)
        have B63 := ((B62.set (j := 0) rfl (.int .u8 v0)).set (j := 1) rfl (.int .i64 v1)).set (j := 2) rfl (.int .i64 v2)
        have B53 := ((B52.other (b' := t5 + 1) (by omega) 0 (.int .u8 v0)).other (b' := t5 + 1) (by omega) 1 (.int .i64 v1)).other (b' := t5 + 1) (by omega) 2 (.int .i64 v2)
        have c14 := R2.r.c14
        have rl := R2.r.rbl
        obtain ⟨hk2, hu⟩ := HU.out
        obtain ⟨gb, cg, cS, gl3, gf, g0, g1, g2, hgk, hset⟩ := R3.r.setGl hk2 (v0, v1, v2) HV.out
        have hnb := R3.r.ok.gn
        rw [HN.out] at cS hnb
        rw [hu] at g0 g1 g2
        dsimp only at g0 g1 g2
        have gf0 := gf (k * 3)
        have gf1 := gf (k * 3 + 1)
        have gf2 := gf (k * 3 + 2)
        have wn : IntKind.i64.wrap ((n : Int) - 1) = (n : Int) - 1 := IntWalk.i64_in _ (by omega)
        have c14 := R3.r.c14
        rw [HH.out] at c14
        have rl3 := R3.r.rbl
        have z0 := B63.c 0 _ rfl
        have z1 := B63.c 1 _ rfl
        have z2 := B63.c 2 _ rfl
        have w0' := B53.c 0 _ rfl
        have w1' := B53.c 1 _ rfl
        have w2' := B53.c 2 _ rfl
        have lz := B63.l
        have lw := B53.l
        obtain ⟨w3, hw3⟩ : ∃ V, (((w2.setCell ⟨t5 + 1, 0, none⟩ (.int .u8 v0)).setCell ⟨t5 + 1, 1, none⟩ (.int .i64 v1)).setCell ⟨t5 + 1, 2, none⟩ (.int .i64 v2)) = V := ⟨_, rfl⟩
        rw [hw3] at cS c14 rl3 z0 z1 z2 w0' w1' w2' lz lw R3 gl3 gf0 gf1 gf2 g0 g1 g2 hset
        have HW3 := Lib.hid hw3
        have HR3 := Lib.hid R3
        have hset := Lib.hid hset
        clear hR R1 k5 B5 k6 B6 R2 B52 B62 R3 B63 B53 HR1 hw3 gf hk2 hgk hu
        go_upto_region 5 with fail
        rw [HW3.out]
        clear HW3
        clear d0 d1 d2 fd0 fd1 fd2 ld x0 x1 x2 lx

        go_quiet ((go_at_call 17; exact Calls.quiet_of_same (HIN.out _)))
        rename_i nq
        have R4 := HR3.out.drewN nq
        have HC := Lib.hid (cant_at R4.r)
        have HR4 := Lib.hid R4
        clear R4 HR3 hset
        go_wp2_with fail
        refine HC.out.mono ?_
        rintro e w4 ⟨rfl, hR⟩
        have HB := Lib.hid (HR4.out.call hR).done
        clear hR HR4
        go_wp2_with fail
        exact bodyPost_ret (v := .tuple #[]) (by simp [results, Try.results33, go_sem]) rfl ⟨rfl, HB.out⟩
  · rw [if_pos (.inl he)]
    have hq : (s1.e != 0) = true := by simpa using he
    clear he
    go_enter Try.func33, Try.ntmps33
    go_wp2_with fail
    rw [HE.out.1, HE.out.2]
    clear HE
    go_wp2_with fail
    refine HP.out.mono ?_
    rintro e w2 ⟨rfl, hR⟩
    obtain ⟨R1, k5, B5, k6, B6⟩ := HR1.out
    have R2 := R1.call hR
    have B52 := B5.keep hR.2 k5
    have B62 := B6.keep hR.2 k6
    have d0 := B62.c 0 _ rfl
    have d1 := B62.c 1 _ rfl
    have d2 := B62.c 2 _ rfl
    have fd0 := B62.f 0
    have fd1 := B62.f 1
    have fd2 := B62.f 2
    have ld := B62.l
    have x0 := B52.c 0 _ rfl
    have x1 := B52.c 1 _ rfl
    have x2 := B52.c 2 _ rfl
    have lx := B52.l
    have R3 := ((R2.set k6 hn6 0 (.int .u8 v0)).set k6 hn6 1 (.int .i64 v1)).set k6 hn6 2 (.int .i64 v2)
    have B63 := ((B62.set (j := 0) rfl (.int .u8 v0)).set (j := 1) rfl (.int .i64 v1)).set (j := 2) rfl (.int .i64 v2)
    have B53 := ((B52.other (b' := t5 + 1) (by omega) 0 (.int .u8 v0)).other (b' := t5 + 1) (by omega) 1 (.int .i64 v1)).other (b' := t5 + 1) (by omega) 2 (.int .i64 v2)
    have c14 := R2.r.c14
    have rl := R2.r.rbl
    have c14 := R3.r.c14
    have rl3 := R3.r.rbl
    have z0 := B63.c 0 _ rfl
    have w1' := B53.c 1 _ rfl
    obtain ⟨w3, hw3⟩ : ∃ V, (((w2.setCell ⟨t5 + 1, 0, none⟩ (.int .u8 v0)).setCell ⟨t5 + 1, 1, none⟩ (.int .i64 v1)).setCell ⟨t5 + 1, 2, none⟩ (.int .i64 v2)) = V := ⟨_, rfl⟩
    rw [hw3] at c14 rl3 z0 w1' R3
    have HW3 := Lib.hid hw3
    have HR3 := Lib.hid R3
    clear hR R1 k5 B5 k6 B6 R2 B52 B62 R3 B63 B53 HR1 hw3
    go_upto_region 5 with fail
    rw [HW3.out]
    clear HW3
    clear d0 d1 d2 fd0 fd1 fd2 ld x0 x1 x2 lx
    go_quiet (fail)
    rename_i nq
    have R4 := HR3.out.drewN nq
    have HC := Lib.hid (cant_at R4.r)
    have HR4 := Lib.hid R4
    clear R4 HR3
    go_wp2_with fail
    refine HC.out.mono ?_
    rintro e w4 ⟨rfl, hR⟩
    have HB := Lib.hid (HR4.out.call hR).done
    clear hR HR4
    go_wp2_with fail
    exact bodyPost_ret (v := .tuple #[]) (by simp [results, Try.results33, go_sem]) rfl ⟨rfl, HB.out⟩
end
#print axioms move_2
#print axioms move_3
#print axioms move_5
end Go.Proofs.Ytkhgpeejmbfmjaa
/- The run in memory: rows, size. -/
namespace Go.Proofs.Ytkhgpeejmbfmjaa
open Go.RowKit
set_option linter.unusedSimpArgs false
set_option linter.unusedVariables false
set_option maxRecDepth 100000
section
variable {w0 W : World} {X : Sx} {rb : Nat} {fgs : List Nat} {c : Nat} {s : Mc} {K : Nat → Prop} {fg : Nat}

/-! The rows of the frames and of their methods. -/
theorem row_cell {W : World} {base : Nat} {e : TypeId} {A : Option Addr} {n cap : Nat} {xs : List Value} (h : W.ownsRow base e 1 (.slice A n cap) n xs) {k : Nat} (hk : k < n) : ∃ g, A = some ⟨g, 0, none⟩ ∧ base ≤ g ∧ g < W.heap.size ∧ n ≤ cap ∧ ∀ u, xs[k]? = some u → W.cell? ⟨g, k, none⟩ = some u := by
  have h0 := h
  rcases h.2 with ⟨e, e2⟩ | ⟨g, c, cur, e, hb, hc, hcap, -⟩
  · omega
  · injection e with e1 e2 e3
    subst e1
    refine ⟨g, rfl, hb, (Array.getElem?_eq_some_iff.1 hc).1, by omega, fun u hu => ?_⟩
    have := h0.cells (g := g) rfl k u hu
    have hadd : (⟨g, 0, none⟩ : Addr).add k = ⟨g, k, none⟩ := by unfold Addr.add; split <;> simp_all
    rwa [hadd] at this
theorem row_less {W : World} {base : Nat} {e : TypeId} {g n cap : Nat} {xs : List Value} (h : W.ownsRow base e 1 (.slice (some ⟨g, 0, none⟩) n cap) n xs) {k : Nat} (hk : k ≤ n) : W.ownsRow base e 1 (.slice (some ⟨g, 0, none⟩) k cap) k (xs.take k) := by
  rcases h with ⟨hl, h⟩
  rcases h with ⟨e, e2⟩ | ⟨g', c, cur, e, hb, hc, hcap, hm, hs, ht⟩
  · cases e
  · injection e with e1 e2 e3
    injection e1 with e1
    injection e1 with e1
    subst e1 e3
    refine ⟨by rw [List.length_take]; omega, .inr ⟨g, cap, cur, rfl, hb, hc, by omega, hm, hs, ?_⟩⟩
    rw [← ht, List.take_take]
    congr 1
    omega
theorem ptrs_get (fgs : List Nat) {k : Nat} (hk : k < fgs.length) : (ptrs fgs)[k]? = some (.pointer (some ⟨fgs[k], 0, none⟩)) := by
  unfold ptrs
  rw [List.getElem?_map, List.getElem?_eq_getElem hk]
  rfl
theorem ints_get (l : List Nat) {k : Nat} (hk : k < l.length) : (ints l)[k]? = some (.int .i64 (l[k] : Nat)) := by
  unfold ints
  rw [List.getElem?_map, List.getElem?_eq_getElem hk]
  rfl
theorem RunAt.frow (h : RunAt w0 W X rb fgs c s K) : ∃ Af cf, W.cell? ⟨rb, 4, none⟩ = some (.slice Af fgs.length cf) ∧ ∀ k (hk : k < fgs.length), ∃ ga, Af = some ⟨ga, 0, none⟩ ∧ ga < W.heap.size ∧ fgs.length ≤ cf ∧ W.cell? ⟨ga, k, none⟩ = some (.pointer (some ⟨fgs[k], 0, none⟩)) := by
  obtain ⟨own, Af, cf, Am, cm, gh, gw, Ag, cg, h⟩ := h
  refine ⟨Af, cf, h.blk.c 4 _ rfl, fun k hk => ?_⟩
  obtain ⟨g, e, h1, h2, h3, h4⟩ := row_cell h.rowF hk
  exact ⟨g, e, h2, h3, h4 _ (ptrs_get fgs hk)⟩
theorem RunAt.mrow (h : RunAt w0 W X rb fgs c s K) : ∃ Am cm, W.cell? ⟨rb, 5, none⟩ = some (.slice Am s.ms.length cm) ∧ ∀ k (hk : k < s.ms.length), ∃ ga, Am = some ⟨ga, 0, none⟩ ∧ ga < W.heap.size ∧ s.ms.length ≤ cm ∧ W.cell? ⟨ga, k, none⟩ = some (.int .i64 (s.ms[k] : Nat)) := by
  obtain ⟨own, Af, cf, Am, cm, gh, gw, Ag, cg, h⟩ := h
  refine ⟨Am, cm, h.blk.c 5 _ rfl, fun k hk => ?_⟩
  obtain ⟨g, e, h1, h2, h3, h4⟩ := row_cell h.rowM hk
  exact ⟨g, e, h2, h3, h4 _ (ints_get s.ms hk)⟩
/-- The last frame goes. -/
theorem RunAt.shrink {l : List Nat} (h : RunAt w0 W X rb (l ++ [fg]) c s K) : ∃ ga cf gm cm, W.cell? ⟨rb, 4, none⟩ = some (.slice (some ⟨ga, 0, none⟩) (l.length + 1) cf) ∧ W.cell? ⟨rb, 5, none⟩ = some (.slice (some ⟨gm, 0, none⟩) (l.length + 1) cm) ∧ l.length + 1 ≤ cf ∧ l.length + 1 ≤ cm ∧ ga < W.heap.size ∧ gm < W.heap.size ∧
    ∀ m, RunK w0 W X rb l c { s with frs := s.frs.dropLast, ms := s.ms.dropLast } K (((W.drewN m).setCell ⟨rb, 4, none⟩ (.slice (some ⟨ga, 0, none⟩) l.length cf)).setCell ⟨rb, 5, none⟩ (.slice (some ⟨gm, 0, none⟩) l.length cm)) := by
  obtain ⟨own, Af, cf, Am, cm, gh, gw, Ag, cg, h⟩ := h
  have hfl : (l ++ [fg]).length = l.length + 1 := by simp
  have hml : s.ms.length = l.length + 1 := by rw [h.ok.ml, ← h.frl, hfl]
  have hfrl : s.frs.length = l.length + 1 := by rw [← h.frl, hfl]
  obtain ⟨ga, rfl, f1, f2, f3, -⟩ := row_cell h.rowF (k := 0) (by omega)
  obtain ⟨gm, rfl, m1, m2, m3, -⟩ := row_cell h.rowM (k := 0) (by omega)
  have hb := h.blk
  have rf := row_less h.rowF (k := l.length) (by omega)
  have rm := row_less h.rowM (k := l.length) (by omega)
  rw [hfl] at hb f3
  rw [hml] at hb m3
  have ef : (ptrs (l ++ [fg])).take l.length = ptrs l := by unfold ptrs; rw [List.map_append, List.take_append_of_le_length (by simp), List.take_of_length_le (by simp)]
  have em : (ints s.ms).take l.length = ints s.ms.dropLast := by
    unfold ints
    rw [← List.map_take, List.dropLast_eq_take, hml]
    rfl
  rw [ef] at rf
  rw [em] at rm
  refine ⟨ga, cf, gm, cm, hb.c 4 _ rfl, hb.c 5 _ rfl, f3, m3, f2, m2, fun m => ?_⟩
  obtain ⟨W', hW'⟩ : ∃ W', (((W.drewN m).setCell ⟨rb, 4, none⟩ (.slice (some ⟨ga, 0, none⟩) l.length cf)).setCell ⟨rb, 5, none⟩ (.slice (some ⟨gm, 0, none⟩) l.length cm)) = W' := ⟨_, rfl⟩
  have t : Touch (fun b => b = rb) W W' := by
    rw [← hW']
    exact (((Touch.refl (fun b => b = rb) W).drewN m).setCell _ _ (fun _ => rfl)).setCell _ _ (fun _ => rfl)
  have B : Blk W' rb (rcells X (.slice (some ⟨ga, 0, none⟩) l.length cf) (.slice (some ⟨gm, 0, none⟩) l.length cm) gh (.slice Ag s.gl.length cg) s) := by
    rw [← hW']
    exact ((hb.drewN m).set (j := 4) rfl _).set (j := 5) rfl _
  rw [hW']
  obtain ⟨s1, s2, s3, s4, s5, s6, s7⟩ := h.step (k' := 1) t (fun b hb e => by have e : b = rb := e; rw [e]; exact ⟨h.mine.rb, h.new h.mine.rb (by omega)⟩) 1
  have hdl : s.ms.dropLast.length = l.length := by rw [List.length_dropLast, hml]; rfl
  have hdf : s.frs.dropLast.length = l.length := by rw [List.length_dropLast, hfrl]; rfl
  refine ⟨⟨relab own W 1, some ⟨ga, 0, none⟩, cf, some ⟨gm, 0, none⟩, cm, gh, gw, Ag, cg, ⟨?_, ?_, ?_, s1 (by omega), hdf.symm, ?_, ?_, s4, s5, s6, s7, h.md, ?_, h.ghe⟩⟩, t.mono (fun b hb e hk => by have e : b = rb := e; have h1 := (h.kk b hk).2; rw [e] at h1; have := h.mine.rb; omega)⟩
  · show Blk W' rb (rcells X _ (.slice (some ⟨gm, 0, none⟩) s.ms.dropLast.length cm) gh (.slice Ag s.gl.length cg) s)
    rw [hdl]
    exact B
  · exact t.row rf (fun g o c e e5 => by
      injection e with e6
      injection e6 with e6
      injection e6 with e6
      have e5 : g = rb := e5
      omega)
  · show W'.ownsRow (rb + 1) 3 1 (.slice (some ⟨gm, 0, none⟩) s.ms.dropLast.length cm) s.ms.dropLast.length (ints s.ms.dropLast)
    rw [hdl]
    exact t.row rm (fun g o c e e5 => by
      injection e with e6
      injection e6 with e6
      injection e6 with e6
      have e5 : g = rb := e5
      omega)
  · intro i hi hi'
    have hi2 : i < s.frs.dropLast.length := hi'
    have hi3 : i < s.frs.length := by omega
    have := s2 i (by omega) hi3 (by omega)
    rw [List.getElem_append_left hi] at this
    have e : s.frs.dropLast[i] = s.frs[i] := List.getElem_dropLast hi2
    show FO w0 W' l[i] c s.frs.dropLast[i] _
    rw [e]
    exact this
  · rcases h.gl with e | ⟨gb, g1, g2, g3, g4, g5⟩
    · exact .inl e
    · exact .inr ⟨gb, g1, by rw [relab_old g3.l]; exact g2, g3.touch t g4, g4, g5⟩
  · have k := h.ok
    refine { k with ml := ?_, mi := ?_, fl := ?_ }
    · show s.ms.dropLast.length = s.frs.dropLast.length
      rw [hdl, hdf]
    · intro i hi
      exact k.mi i (List.dropLast_subset _ hi)
    · show s.frs.dropLast.length ≤ 257
      have := k.fl
      omega
/-! size -/
theorem r_size (h : RunAt w0 W X rb fgs c s K) {i : Nat} (hi : i < fgs.length) (hi' : i < s.frs.length) : Calls Try.prog 31 #[.pointer (some ⟨fgs[i], 0, none⟩)] W fun e W' => e = .returned (.int .i64 ((s.frs[i].many : Int) + (s.frs[i].stk.length : Int))) ∧ ∃ k, W' = W.drewN k := by
  obtain ⟨own, Af, cf, Am, cm, gh, gw, Ag, cg, h⟩ := h
  exact fo_size (h.fr i hi hi')
theorem RunAt.drewN (h : RunAt w0 W X rb fgs c s K) (m : Nat) : RunAt w0 (W.drewN m) X rb fgs c s K := h.foreign (S := fun _ => False) ((Touch.refl _ _).drewN m) (fun _ _ e => e.elim)
theorem frame_size (h : RunAt w0 W X rb fgs c s K) {i : Nat} (hi' : i < s.frs.length) : s.frs[i].many ≤ 16 ∧ s.frs[i].stk.length ≤ 256 := by
  obtain ⟨own, Af, cf, Am, cm, gh, gw, Ag, cg, h⟩ := h
  have := (h.fr i (by rw [h.frl]; exact hi') hi').size
  exact ⟨this.1, this.2.1⟩
def psum (frs : List Fr) (k : Nat) : Int := ((frs.take k).map (fun F => (F.many : Int) + (F.stk.length : Int))).sum
theorem psum_succ {frs : List Fr} {k : Nat} (hk : k < frs.length) : psum frs (k + 1) = psum frs k + ((frs[k].many : Int) + (frs[k].stk.length : Int)) := by
  unfold psum
  rw [List.take_succ_eq_append_getElem hk, List.map_append, List.sum_append]
  simp
theorem psum_le (h : RunAt w0 W X rb fgs c s K) : ∀ k, k ≤ s.frs.length → 0 ≤ psum s.frs k ∧ psum s.frs k ≤ k * 272 := by
  intro k
  induction k with
  | zero => intro _; simp [psum]
  | succ k ih =>
    intro hk
    have h1 := ih (by omega)
    have h2 := frame_size h (i := k) (by omega)
    rw [psum_succ (by omega)]
    omega
theorem size_run (h : RunAt w0 W X rb fgs c s K) : Calls Try.prog 22 #[.pointer (some ⟨rb, 0, none⟩)] W fun e W' => e = .returned (.int .i64 s.size) ∧ ∃ k, W' = W.drewN k := by
  obtain ⟨Af, cf, c4, hrow⟩ := h.frow
  have rl := h.rbl
  have hps := Lib.hid (psum_le h)
  have hfl := h.ok.fl
  have hfr := h.frl
  obtain ⟨n, hn⟩ : ∃ n, fgs.length = n := ⟨_, rfl⟩
  have hns : n ≤ 257 := by omega
  have HS : Hid (s.size = psum s.frs n) := Lib.hid (by unfold Mc.size psum; rw [List.take_of_length_le (by omega)])
  have HSZ : Hid (∀ m i (hi : i < n), ∃ p, fgs[i]? = some p ∧ Calls Try.prog 31 #[.pointer (some ⟨p, 0, none⟩)] (W.drewN m) fun e W' => e = .returned (.int .i64 (psum s.frs (i + 1) - psum s.frs i)) ∧ ∃ k, W' = (W.drewN m).drewN k) := Lib.hid (by
    intro m i hi
    have hi1 : i < fgs.length := by omega
    have hi2 : i < s.frs.length := by omega
    refine ⟨fgs[i], List.getElem?_eq_getElem hi1, ?_⟩
    have e := psum_succ hi2
    have := r_size (h.drewN m) hi1 hi2
    rw [show psum s.frs (i + 1) - psum s.frs i = (s.frs[i].many : Int) + (s.frs[i].stk.length : Int) by omega]
    exact this)
  have HROW : Hid (∀ m i (hi : i < n) p, fgs[i]? = some p → ∃ ga, Af = some ⟨ga, 0, none⟩ ∧ (W.drewN m).cell? ⟨ga, i, none⟩ = some (.pointer (some ⟨p, 0, none⟩))) := Lib.hid (by
    intro m i hi p hp
    obtain ⟨ga, e, -, -, hc⟩ := hrow i (by omega)
    rw [List.getElem?_eq_getElem (by omega)] at hp
    obtain rfl := Option.some.inj hp
    exact ⟨ga, e, by simpa using hc⟩)
  rw [hn] at c4
  have HL : Hid (∀ k, k ≤ n → 0 ≤ psum s.frs k ∧ psum s.frs k ≤ k * 272) := Lib.hid (fun k hk => hps.out k (by omega))
  have hz0 : psum s.frs 0 = 0 := by simp [psum]
  rw [HS.out]
  have HZ := Lib.hid hz0
  clear h hrow hfl hfr hps hn hz0 HS
  generalize psum s.frs = f at *
  go_enter Try.func22, Try.ntmps22
  go_wp2_with fail
  go_loopw [3, 11] (fun t i wr => ∃ k m : Nat, k ≤ n ∧ i = .int .i64 k ∧ t = .int .i64 (f k) ∧ wr = W.drewN m) (fun _ i _ => n - (intOf i).toNat)
  case atStart => exact ⟨0, 0, Nat.zero_le _, rfl, by rw [HZ.out], rfl⟩
  case round =>
    obtain ⟨k, m, hk, rfl, rfl, rfl⟩ := hrel
    have hb := HL.out k hk
    by_cases hlt : k < n
    · obtain ⟨p, hp, HC⟩ := HSZ.out m k hlt
      obtain ⟨ga, rfl, hc⟩ := HROW.out m k hlt p hp
      have hb1 := HL.out (k + 1) hlt
      have hki : (k : Int) < (n : Int) := by omega
      have wn : IntKind.i64.wrap (f k + (f (k + 1) - f k)) = f (k + 1) := by rw [show f k + (f (k + 1) - f k) = f (k + 1) by omega]; exact IntWalk.i64_in _ (by omega)
      have HC := Lib.hid HC
      have HWN := Lib.hid wn
      clear hp wn
      go_wp2_with fail
      refine HC.out.mono ?_
      rintro e w2 ⟨rfl, j, rfl⟩
      have wn := HWN.out
      obtain ⟨d, hd⟩ : ∃ d, f (k + 1) - f k = d := ⟨_, rfl⟩
      obtain ⟨g, hg⟩ : ∃ g, f (k + 1) = g := ⟨_, rfl⟩
      have HG := Lib.hid hg
      rw [hg] at hd wn
      rw [hg, hd]
      rw [hd] at wn
      clear hd hg
      go_wp2_with fail
      go_roundw
      case rel => exact ⟨k + 1, m + j, by omega, by go_num, by rw [HG.out], rfl⟩
      case measure => simp [intOf]; omega
    · obtain rfl : k = n := by omega
      go_wp2_with fail
      go_ret
      exact ⟨rfl, _, rfl⟩
end
#print axioms psum_succ
#print axioms psum_le
#print axioms size_run
end Go.Proofs.Ytkhgpeejmbfmjaa
