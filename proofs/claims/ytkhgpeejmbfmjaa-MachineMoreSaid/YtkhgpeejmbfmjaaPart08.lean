/- Parts of the walk, joined. -/
import Derived.Test.YtkhgpeejmbfmjaaPart07
import Derived.BigRegion
/- The run in memory: ret. -/
namespace Go.Proofs.Ytkhgpeejmbfmjaa
open Go.RowKit
set_option linter.unusedSimpArgs false
set_option linter.unusedVariables false
set_option maxRecDepth 100000
section
variable {w0 W : World} {X : Sx} {rb : Nat} {fgs : List Nat} {c : Nat} {s : Mc} {K : Nat → Prop} {fg : Nat}

/-- Over, or with a frame. -/
def Lv (fgs : List Nat) (s : Mc) : Prop := s.over = true ∨ ∃ fg, Topf fgs fg
theorem upd_len (hne : s.frs ≠ []) (F : Fr) : (s.upd F).frs.length = s.frs.length := by
  unfold Mc.upd
  dsimp only
  rw [List.length_append, List.length_dropLast]
  have := List.length_pos_iff.2 hne
  simp; omega
theorem pop_len (hne : s.frs ≠ []) (k : Int) : (s.pop k).2.frs.length = s.frs.length := by
  unfold Mc.pop
  dsimp only
  split
  · exact upd_len hne _
  · unfold Mc.cant; split <;> rfl
theorem last_of {l : List Nat} {n : Nat} (h : l.length = n + 1) : ∃ i, l.getLast?.getD 0 = i ∧ i ∈ l ∧ ∃ hn : n < l.length, l[n] = i := by
  rcases List.eq_nil_or_concat l with e | ⟨m, v, e⟩
  · rw [e] at h; simp at h
  · rw [List.concat_eq_append] at e
    subst e
    have hm : m.length = n := by simp at h; exact h
    refine ⟨v, by simp, by simp, by simp; omega, ?_⟩
    rw [List.getElem_append_right (by omega)]
    simp [hm]
theorem Md.at_eq {m : Md} {i : Nat} (h : i < m.mts.length) : m.at i = m.mts[i] := by
  unfold Md.at
  rw [List.getElem?_eq_getElem h, Option.getD_some]
/-- The method on top. -/
theorem RunAt.mtop (h : RunAt w0 W X rb fgs c s K) {n : Nat} (hn : fgs.length = n + 1) : ∃ (i : Nat) (x : Mt), s.ms.getLast?.getD 0 = i ∧ X.m.at i = x ∧ (i : Int) < X.nm ∧ i < X.m.mts.length ∧ (∃ gm cm, W.cell? ⟨rb, 5, none⟩ = some (.slice (some ⟨gm, 0, none⟩) (n + 1) cm) ∧ gm < W.heap.size ∧ W.cell? ⟨gm, n, none⟩ = some (.int .i64 (i : Int))) ∧
    ∃ g o, X.mm = some ⟨g, o, none⟩ ∧ g < W.heap.size ∧ MtAt W g (o + i * 8) x := by
  have hml : s.ms.length = n + 1 := by rw [h.ok.ml, ← h.frl, hn]
  obtain ⟨i, e1, e2, e3, e4⟩ := last_of hml
  have hi := h.ok.mi i e2
  obtain ⟨Am, cm, c5, hrow⟩ := h.mrow
  obtain ⟨gm, rfl, hg, hc, hx⟩ := hrow n e3
  rw [hml] at c5
  rw [e4] at hx
  have md := h.md
  obtain ⟨g, o, m1, m2, m3⟩ := md.mts i hi
  have := md.ml
  exact ⟨i, X.m.mts[i], e1, Md.at_eq hi, by omega, hi, ⟨gm, cm, c5, hg, hx⟩, g, o, m1, m2, m3⟩
set_option maxHeartbeats 4000000 in
theorem ret_at (h : RunAt w0 W X rb fgs c s K) (hf : Topf fgs fg) : Calls Try.prog 74 #[.pointer (some ⟨rb, 0, none⟩), .pointer (some ⟨fg, 0, none⟩)] W fun e W' => e = .returned (.tuple #[]) ∧ ∃ fgs', RunK w0 W X rb fgs' c (s.ret X.m) K W' ∧ Lv fgs' (s.ret X.m) := by
  obtain ⟨l, rfl⟩ := hf
  have hf : Topf (l ++ [fg]) fg := ⟨l, rfl⟩
  obtain ⟨q, hq⟩ : ∃ q, l.length = q := ⟨_, rfl⟩
  have hfn : (l ++ [fg]).length = q + 1 := by simp [hq]
  obtain ⟨i, x, hi1, hi2, hi3, hi4, ⟨gm, cm, c5, gml, gmc⟩, g, o, hmm, gl, Aa, na, ca, Al, nl, cl, Ac, nc, cc, rd, y1, y2, y3, m0, m1, m2, m3, m4, m5, m6, m7, -, -, -, -, -, -, hres⟩ := h.mtop hfn
  have hfl := h.ok.fl
  have hfr := h.frl
  have c2 := h.c2
  rw [hmm] at c2
  have rl := h.rbl
  have hnm := h.md.nm
  have HP := Lib.hid (fun m => pop_at (h.drewN m) hf x.res hres)
  have HPV := Lib.hid (pop_ok h hf x.res)
  have e : s.ret X.m = (let t := s.pop x.res; if (x.res ≠ 1 ∧ x.res ≠ 2) ∨ t.2.e ≠ 0 then t.2.cant else
      (let u : Mc := { t.2 with frs := t.2.frs.dropLast, ms := t.2.ms.dropLast }; if u.frs = [] then { u with out := (0, t.1), over := true } else u.push t.1)) := by
    unfold Mc.ret
    rw [hi1, hi2]
  rw [e]
  dsimp only
  obtain ⟨k, hk⟩ : ∃ k, x.res = k := ⟨_, rfl⟩
  rw [hk] at m2 HP hres HPV ⊢
  obtain ⟨⟨⟨v0, v1, v2⟩, s1⟩, hv⟩ : ∃ p, s.pop k = p := ⟨_, rfl⟩
  have hpl := pop_len (h.ne hf) k
  rw [hv] at HP HPV hpl ⊢
  have hfd : s1.frs.dropLast.length = q := by rw [List.length_dropLast, hpl]; omega
  unfold vagg at HP
  dsimp only at HP HPV ⊢
  have hq256 : (q : Int) ≤ 256 := by omega
  have hq0 : 0 ≤ (q : Int) := by omega
  have HR := Lib.hid h.rk0
  have HF := Lib.hid hf
  have HQ := Lib.hid hq
  have HN : Hid (s1.frs.length = q + 1 → True) := Lib.hid (fun _ => trivial)
  clear h hf hfn hi1 hi2 hi4 hmm hfl hfr e hk hv hq HN hpl m0 m1 m3 m4 m5 m6 m7
  by_cases hres2 : k ≠ 1 ∧ k ≠ 2
  · rw [if_pos (.inl hres2)]
    have d1 : (k != 1) = true := by simpa using hres2.1
    have d2 : (k != 2) = true := by simpa using hres2.2
    clear hres2 hfd
    have wn1 : IntKind.i64.wrap ((q : Int) + 1 - 1) = (q : Int) := by rw [show (q : Int) + 1 - 1 = q by omega]; exact IntWalk.i64_in _ (by omega)
    have wn2 : IntKind.i64.wrap (((q + 1 : Nat) : Int) - 1) = (q : Int) := by rw [show ((q + 1 : Nat) : Int) - 1 = q by omega]; exact IntWalk.i64_in _ (by omega)
    have hqn : (q : Int) < ((q + 1 : Nat) : Int) := by omega
    have hqn2 : (q : Int) < (q : Int) + 1 := by omega
    go_enter Try.func74, Try.ntmps74
    go_wp2_with fail
    go_quiet (fail)
    rename_i nq
    clear wn1 wn2
    go_wp2_with fail
    refine (HP.out _).mono ?_
    rintro e w2 ⟨rfl, hR⟩
    have R2 := (HR.out.drewN nq).call hR
    obtain ⟨K3, R3, k3, k5⟩ := R2.alloc (.cells #[.int .u8 v0, .int .i64 v1, .int .i64 v2] 29)
    have B5 := Blk.new w2 #[.int .u8 v0, .int .i64 v1, .int .i64 v2] 29
    have c14w := R2.r.c14
    have rlw := R2.r.rbl
    obtain ⟨w3, hw3⟩ : ∃ V, w2.alloc (.cells #[.int .u8 v0, .int .i64 v1, .int .i64 v2] 29) = V := ⟨_, rfl⟩
    obtain ⟨t5, ht5⟩ : ∃ t, w2.heap.size = t := ⟨_, rfl⟩
    rw [hw3] at R3 B5
    rw [ht5] at B5 k5
    have HW3 := Lib.hid (And.intro hw3 ht5)
    have c14 := R3.r.c14
    have HC := Lib.hid (cant_at R3.r)
    have HR3 := Lib.hid R3
    clear hR R2 R3 k3 k5 B5 hw3 ht5
    go_wp2_with fail
    rw [HW3.out.1]
    refine HC.out.mono ?_
    rintro e w4 ⟨rfl, hR⟩
    have HB := Lib.hid (HR3.out.call hR).done
    clear hR HR3
    go_wp2_with fail
    exact bodyPost_ret (v := .tuple #[]) (by simp [results, Try.results74, go_sem]) rfl ⟨rfl, _, HB.out, .inr ⟨_, HF.out⟩⟩
  · have hk12 : k = 1 ∨ k = 2 := by omega
    by_cases he : s1.e = 0
    · rw [if_neg (by intro z; rcases z with z | z; exact hres2 z; exact z he)]
      have HE0 := Lib.hid he
      clear hres2 he
      rcases List.eq_nil_or_concat l with hl | ⟨l', fg', hl⟩
      · subst hl
        have hqz : ((q : Int) == 0) = true := by rw [← HQ.out]; rfl
        rw [if_pos (List.eq_nil_of_length_eq_zero (by rw [hfd, ← HQ.out]; rfl))]
        clear hfd
        rcases hk12 with rfl | rfl
        all_goals
          have wn1 : IntKind.i64.wrap ((q : Int) + 1 - 1) = (q : Int) := by rw [show (q : Int) + 1 - 1 = q by omega]; exact IntWalk.i64_in _ (by omega)
          have wn2 : IntKind.i64.wrap (((q + 1 : Nat) : Int) - 1) = (q : Int) := by rw [show ((q + 1 : Nat) : Int) - 1 = q by omega]; exact IntWalk.i64_in _ (by omega)
          have hqn : (q : Int) < ((q + 1 : Nat) : Int) := by omega
          have hqn2 : (q : Int) < (q : Int) + 1 := by omega
          go_enter Try.func74, Try.ntmps74
          go_wp2_with fail
          go_quiet (fail)
          rename_i nq
          clear wn1 wn2
          go_wp2_with fail
          refine (HP.out _).mono ?_
          rintro e w2 ⟨rfl, hR⟩
          have R2 := (HR.out.drewN nq).call hR
          obtain ⟨K3, R3, k3, k5⟩ := R2.alloc (.cells #[.int .u8 v0, .int .i64 v1, .int .i64 v2] 29)
          have B5 := Blk.new w2 #[.int .u8 v0, .int .i64 v1, .int .i64 v2] 29
          have c14w := R2.r.c14
          have rlw := R2.r.rbl
          obtain ⟨w3, hw3⟩ : ∃ V, w2.alloc (.cells #[.int .u8 v0, .int .i64 v1, .int .i64 v2] 29) = V := ⟨_, rfl⟩
          obtain ⟨t5, ht5⟩ : ∃ t, w2.heap.size = t := ⟨_, rfl⟩
          rw [hw3] at R3 B5
          rw [ht5] at B5 k5
          have HW3 := Lib.hid (And.intro hw3 ht5)
          have c14 := R3.r.c14
          rw [HE0.out] at c14 c14w
          obtain ⟨ga, cf, gm', cm', e4, e5, hcf, hcm, gal, gml', hsh⟩ := R3.r.shrink
          rw [HQ.out] at e4 e5 hcf hcm hsh
          have rl3 := R3.r.rbl
          have f4 := R3.r.rf 4
          have f5 := R3.r.rf 5
          have b50 := B5.c 0 _ rfl
          have b51 := B5.c 1 _ rfl
          have b52 := B5.c 2 _ rfl
          have b5l := B5.l
          have hn5 : W.heap.size ≤ t5 := by rw [← ht5]; exact R2.t.size
          have HSH := Lib.hid (And.intro hsh (And.intro R3 (And.intro B5 (And.intro k5 hn5))))
          have hcf2 : (q : Int) ≤ (cf : Int) := by omega
          have hcm2 : (q : Int) ≤ (cm' : Int) := by omega
          have HQB := Lib.hid (And.intro hcf hcm)
          clear hR R2 R3 k3 k5 B5 hw3 ht5 hsh hcf hcm hn5
          go_upto_region 4 with fail
          rw [HW3.out.1, HW3.out.2]
          clear HW3
          have wn1 : IntKind.i64.wrap ((q : Int) + 1 - 1) = (q : Int) := by rw [show (q : Int) + 1 - 1 = q by omega]; exact IntWalk.i64_in _ (by omega)
          have wn2 : IntKind.i64.wrap (((q + 1 : Nat) : Int) - 1) = (q : Int) := by rw [show ((q + 1 : Nat) : Int) - 1 = q by omega]; exact IntWalk.i64_in _ (by omega)
          go_region
          obtain ⟨hsh, R3, B5, k5, hn5⟩ := HSH.out
          have hne : rb ≠ t5 := fun e => R3.r.rk (by rw [e]; exact k5)
          have R4 : Rk w0 W K (((w3.setCell ⟨rb, 4, none⟩ (.slice (some ⟨ga, 0, none⟩) q cf)).setCell ⟨rb, 5, none⟩ (.slice (some ⟨gm', 0, none⟩) q cm')).drew) K3 X rb _ c { s1 with frs := s1.frs.dropLast, ms := s1.ms.dropLast } := (R3.call (hsh 0)).drewN 1
          have B54 := ((B5.other hne 4 (.slice (some ⟨ga, 0, none⟩) q cf)).other hne 5 (.slice (some ⟨gm', 0, none⟩) q cm')).drew
          obtain ⟨w4, hw4⟩ : ∃ V, (((w3.setCell ⟨rb, 4, none⟩ (.slice (some ⟨ga, 0, none⟩) q cf)).setCell ⟨rb, 5, none⟩ (.slice (some ⟨gm', 0, none⟩) q cm')).drew) = V := ⟨_, rfl⟩
          rw [hw4] at R4 B54
          rw [hw4]
          obtain ⟨Af, cf2, c44, hrow⟩ := R4.r.frow
          rw [show ([] : List Nat).length = q from HQ.out] at c44
          have rl4 := R4.r.rbl
          have b50' := B54.c 0 _ rfl
          have b51' := B54.c 1 _ rfl
          have b52' := B54.c 2 _ rfl
          have b5l' := B54.l
          clear hw4 HSH hsh R3 B5 B54 e4 e5 wn1 wn2 b50 b51 b52 b5l rl3 f4 f5 gal gml' hcf2 hcm2 c14
          have d15 := R4.r.c15
          have d16 := R4.r.c16
          have d17 := R4.r.c17
          have d18 := R4.r.c18
          have d19 := R4.r.c19
          have ff := R4.r.rf
          have HB := Lib.hid (R4.call (R4.r.cells (s' := { s1 with frs := s1.frs.dropLast, ms := s1.ms.dropLast, out := (0, (v0, v1, v2)), over := true }) ((((((Touch.refl (fun b => b = rb) w4).setCell _ _ (fun _ => rfl)).setCell _ _ (fun _ => rfl)).setCell _ _ (fun _ => rfl)).setCell _ _ (fun _ => rfl)).setCell _ _ (fun _ => rfl))
            (fun sf sm gh sg b => ((((b.set (j := 16) rfl (.int .i64 0)).set (j := 17) rfl (.int .u8 v0)).set (j := 18) rfl (.int .i64 v1)).set (j := 19) rfl (.int .i64 v2)).set (j := 15) rfl (.bool true)) rfl rfl rfl rfl R4.r.ok.e ⟨by unfold I64; dsimp only; omega, HPV.out⟩)).done
          clear R4 hrow
          go_wp2_with fail
          exact bodyPost_ret (v := .tuple #[]) (by simp [results, Try.results74, go_sem]) rfl ⟨rfl, _, HB.out, .inl rfl⟩
      · rw [List.concat_eq_append] at hl
        subst hl
        have HP1 : Hid (l'.length + 1 = q) := Lib.hid (by rw [← HQ.out]; simp)
        have hqz : ((q : Int) == 0) = false := by rw [beq_eq_false_iff_ne]; have := HP1.out; omega
        rw [if_neg (by intro z; rw [z] at hfd; have := HP1.out; simp at hfd; omega)]
        clear hfd
        rcases hk12 with rfl | rfl
        all_goals
          have wn1 : IntKind.i64.wrap ((q : Int) + 1 - 1) = (q : Int) := by rw [show (q : Int) + 1 - 1 = q by omega]; exact IntWalk.i64_in _ (by omega)
          have wn2 : IntKind.i64.wrap (((q + 1 : Nat) : Int) - 1) = (q : Int) := by rw [show ((q + 1 : Nat) : Int) - 1 = q by omega]; exact IntWalk.i64_in _ (by omega)
          have hqn : (q : Int) < ((q + 1 : Nat) : Int) := by omega
          have hqn2 : (q : Int) < (q : Int) + 1 := by omega
          go_enter Try.func74, Try.ntmps74
          go_wp2_with fail
          go_quiet (fail)
          rename_i nq
          clear wn1 wn2
          go_wp2_with fail
          refine (HP.out _).mono ?_
          rintro e w2 ⟨rfl, hR⟩
          have R2 := (HR.out.drewN nq).call hR
          obtain ⟨K3, R3, k3, k5⟩ := R2.alloc (.cells #[.int .u8 v0, .int .i64 v1, .int .i64 v2] 29)
          have B5 := Blk.new w2 #[.int .u8 v0, .int .i64 v1, .int .i64 v2] 29
          have c14w := R2.r.c14
          have rlw := R2.r.rbl
          obtain ⟨w3, hw3⟩ : ∃ V, w2.alloc (.cells #[.int .u8 v0, .int .i64 v1, .int .i64 v2] 29) = V := ⟨_, rfl⟩
          obtain ⟨t5, ht5⟩ : ∃ t, w2.heap.size = t := ⟨_, rfl⟩
          rw [hw3] at R3 B5
          rw [ht5] at B5 k5
          have HW3 := Lib.hid (And.intro hw3 ht5)
          have c14 := R3.r.c14
          rw [HE0.out] at c14 c14w
          obtain ⟨ga, cf, gm', cm', e4, e5, hcf, hcm, gal, gml', hsh⟩ := R3.r.shrink
          rw [HQ.out] at e4 e5 hcf hcm hsh
          have rl3 := R3.r.rbl
          have f4 := R3.r.rf 4
          have f5 := R3.r.rf 5
          have b50 := B5.c 0 _ rfl
          have b51 := B5.c 1 _ rfl
          have b52 := B5.c 2 _ rfl
          have b5l := B5.l
          have hn5 : W.heap.size ≤ t5 := by rw [← ht5]; exact R2.t.size
          have HSH := Lib.hid (And.intro hsh (And.intro R3 (And.intro B5 (And.intro k5 hn5))))
          have hcf2 : (q : Int) ≤ (cf : Int) := by omega
          have hcm2 : (q : Int) ≤ (cm' : Int) := by omega
          have HQB := Lib.hid (And.intro hcf hcm)
          clear hR R2 R3 k3 k5 B5 hw3 ht5 hsh hcf hcm hn5
          go_upto_region 4 with fail
          rw [HW3.out.1, HW3.out.2]
          clear HW3
          have wn1 : IntKind.i64.wrap ((q : Int) + 1 - 1) = (q : Int) := by rw [show (q : Int) + 1 - 1 = q by omega]; exact IntWalk.i64_in _ (by omega)
          have wn2 : IntKind.i64.wrap (((q + 1 : Nat) : Int) - 1) = (q : Int) := by rw [show ((q + 1 : Nat) : Int) - 1 = q by omega]; exact IntWalk.i64_in _ (by omega)
          go_region
          obtain ⟨hsh, R3, B5, k5, hn5⟩ := HSH.out
          have hne : rb ≠ t5 := fun e => R3.r.rk (by rw [e]; exact k5)
          have R4 : Rk w0 W K (((w3.setCell ⟨rb, 4, none⟩ (.slice (some ⟨ga, 0, none⟩) q cf)).setCell ⟨rb, 5, none⟩ (.slice (some ⟨gm', 0, none⟩) q cm')).drew) K3 X rb _ c { s1 with frs := s1.frs.dropLast, ms := s1.ms.dropLast } := (R3.call (hsh 0)).drewN 1
          have B54 := ((B5.other hne 4 (.slice (some ⟨ga, 0, none⟩) q cf)).other hne 5 (.slice (some ⟨gm', 0, none⟩) q cm')).drew
          obtain ⟨w4, hw4⟩ : ∃ V, (((w3.setCell ⟨rb, 4, none⟩ (.slice (some ⟨ga, 0, none⟩) q cf)).setCell ⟨rb, 5, none⟩ (.slice (some ⟨gm', 0, none⟩) q cm')).drew) = V := ⟨_, rfl⟩
          rw [hw4] at R4 B54
          rw [hw4]
          obtain ⟨Af, cf2, c44, hrow⟩ := R4.r.frow
          rw [show (l' ++ [fg']).length = q from HQ.out] at c44
          have rl4 := R4.r.rbl
          have b50' := B54.c 0 _ rfl
          have b51' := B54.c 1 _ rfl
          have b52' := B54.c 2 _ rfl
          have b5l' := B54.l
          clear hw4 HSH hsh R3 B5 B54 e4 e5 wn1 wn2 b50 b51 b52 b5l rl3 f4 f5 gal gml' hcf2 hcm2 c14
          have hfr2 : ({ s1 with frs := s1.frs.dropLast, ms := s1.ms.dropLast } : Mc).frs ≠ [] := R4.r.ne ⟨l', rfl⟩
          have hp1 := HP1.out
          obtain ⟨ga2, rfl, gl2, hcf3, hx⟩ := hrow l'.length (by simp)
          rw [List.getElem_append_right (Nat.le_refl _)] at hx
          simp only [Nat.sub_self, List.getElem_cons_zero] at hx
          obtain ⟨p, hp⟩ : ∃ p, l'.length = p := ⟨_, rfl⟩
          rw [hp] at hx hp1
          have HC := Lib.hid (fun m => push_at (R4.r.drewN m) ⟨l', rfl⟩ (v0, v1, v2) HPV.out)
          unfold vagg at HC
          dsimp only at HC
          have HR4 := Lib.hid (And.intro R4 hfr2)
          have wp1 : IntKind.i64.wrap ((q : Int) - 1) = (p : Int) := by rw [show (q : Int) - 1 = p by omega]; exact IntWalk.i64_in _ (by omega)
          have hpq : (p : Int) < (q : Int) := by omega
          have hp0 : 0 ≤ (p : Int) := by omega
          have HHP := Lib.hid hp
          clear R4 hrow hfr2 hp hp1
          go_upto_region 7 with fail
          go_still_tail 14, (by kernel_rfl)
          go_wp2_with fail
          refine (HC.out 1).mono ?_
          rintro e w5 ⟨rfl, hR⟩
          obtain ⟨R4, hfr2⟩ := HR4.out
          have HB := Lib.hid ((R4.drewN 1).call hR).done
          clear hR R4 HR4 hfr2
          go_wp2_with fail
          go_end0
          exact ⟨rfl, _, HB.out, .inr ⟨_, ⟨_, rfl⟩⟩⟩
    · rw [if_pos (.inr he)]
      have d3 : (s1.e != 0) = true := by simpa using he
      clear hres2 he hfd
      rcases hk12 with rfl | rfl
      all_goals
        have wn1 : IntKind.i64.wrap ((q : Int) + 1 - 1) = (q : Int) := by rw [show (q : Int) + 1 - 1 = q by omega]; exact IntWalk.i64_in _ (by omega)
        have wn2 : IntKind.i64.wrap (((q + 1 : Nat) : Int) - 1) = (q : Int) := by rw [show ((q + 1 : Nat) : Int) - 1 = q by omega]; exact IntWalk.i64_in _ (by omega)
        have hqn : (q : Int) < ((q + 1 : Nat) : Int) := by omega
        have hqn2 : (q : Int) < (q : Int) + 1 := by omega
        go_enter Try.func74, Try.ntmps74
        go_wp2_with fail
        go_quiet (fail)
        rename_i nq
        clear wn1 wn2
        go_wp2_with fail
        refine (HP.out _).mono ?_
        rintro e w2 ⟨rfl, hR⟩
        have R2 := (HR.out.drewN nq).call hR
        obtain ⟨K3, R3, k3, k5⟩ := R2.alloc (.cells #[.int .u8 v0, .int .i64 v1, .int .i64 v2] 29)
        have B5 := Blk.new w2 #[.int .u8 v0, .int .i64 v1, .int .i64 v2] 29
        have c14w := R2.r.c14
        have rlw := R2.r.rbl
        obtain ⟨w3, hw3⟩ : ∃ V, w2.alloc (.cells #[.int .u8 v0, .int .i64 v1, .int .i64 v2] 29) = V := ⟨_, rfl⟩
        obtain ⟨t5, ht5⟩ : ∃ t, w2.heap.size = t := ⟨_, rfl⟩
        rw [hw3] at R3 B5
        rw [ht5] at B5 k5
        have HW3 := Lib.hid (And.intro hw3 ht5)
        have c14 := R3.r.c14
        have HC := Lib.hid (cant_at R3.r)
        have HR3 := Lib.hid R3
        clear hR R2 R3 k3 k5 B5 hw3 ht5
        go_wp2_with fail
        rw [HW3.out.1]
        refine HC.out.mono ?_
        rintro e w4 ⟨rfl, hR⟩
        have HB := Lib.hid (HR3.out.call hR).done
        clear hR HR3
        go_wp2_with fail
        exact bodyPost_ret (v := .tuple #[]) (by simp [results, Try.results74, go_sem]) rfl ⟨rfl, _, HB.out, .inr ⟨_, HF.out⟩⟩
end
#print axioms Md
#print axioms RunAt
#print axioms ret_at
end Go.Proofs.Ytkhgpeejmbfmjaa
