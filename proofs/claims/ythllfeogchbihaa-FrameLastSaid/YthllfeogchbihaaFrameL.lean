/- FrameLast: the law's walk. -/
import Derived.Test.YthllfeogchbihaaFrameH
import Derived.Deep.DeepCutAuto
namespace Go.Proofs.Ythllfeogchbihaa
open Go.RowKit
set_option linter.unusedSimpArgs false
set_option linter.unusedVariables false

theorem newOk_no {ls : List Int} : NewOk [] ls [] ↔ (ls.length ≤ 16 ∧ ∀ i (h : i < ls.length), kindB ls[i] = true) :=
  ⟨fun h => ⟨by have := h.2.1; simpa using this, h.2.2.2⟩, fun h => ⟨rfl, by simpa using h.1, fun i h => absurd h (by simp), h.2⟩⟩

set_option maxRecDepth 100000 in
set_option maxHeartbeats 4000000 in
theorem last_walk (A0 A1 : Option Addr) (n0 n1 c0 c1 : Nat) (ev : Int) (w : World) (ls : List Int) (vs : List V) (hA0 : BytesAt w A0 n0 ls) (hA1 : VsAt w A1 n1 vs) (he : 0 ≤ ev ∧ ev ≤ 255) :
    Calls Try.prog 4 #[.slice A0 n0 c0, .slice A1 n1 c1, .int .u8 ev] w fun e w' => e = .returned (.bool true) ∧ Below w.heap.size w w' := by
  obtain ⟨i37, hi, hz0, hz1, hz2⟩ := fr_parts info37
  obtain ⟨ev0, ev1⟩ := he
  have HA0 := Lib.hid hA0
  have HA1 := Lib.hid hA1
  clear hA0 hA1
  by_cases q0 : 16 < n0
  · have t2 : (16 : Int) < (n0 : Int) := by omega
    clear hi hz0 hz1 hz2
    go_enter Try.func4, Try.ntmps4
    go_wp2_with fail
    refine (awake_ok _).mono ?_
    rintro e w1 ⟨rfl, hb⟩
    go_wp2_with fail
    go_ret
    exact ⟨rfl, hb⟩
  have t0 : (n0 : Int) ≤ 16 := by omega
  by_cases q1 : 400 < n1
  · have t2 : (400 : Int) < (n1 : Int) := by omega
    clear hi hz0 hz1 hz2
    go_enter Try.func4, Try.ntmps4
    go_wp2_with fail
    refine (awake_ok _).mono ?_
    rintro e w1 ⟨rfl, hb⟩
    go_wp2_with fail
    go_ret
    exact ⟨rfl, hb⟩
  have t1 : (n1 : Int) ≤ 400 := by omega
  by_cases hok : NewOk [] ls []
  case neg =>
    clear hi hz0 hz1 hz2
    go_enter Try.func4, Try.ntmps4
    go_wp2_with fail
    refine (awake_ok _).mono ?_
    rintro e w1 ⟨rfl, hb⟩
    have HB := Lib.hid hb
    clear hb
    go_wp2_with fail
    refine (fo_new_no _ _ _ _ _ _ _ _ _ _ [] ls [] (BytesAt.nil _ _) (HA0.out.below HB.out) (VsAt.nil _ _) (by omega) (by omega) (by omega) hok).mono ?_
    rintro e w2 ⟨rfl, hb2⟩
    have HB2 := Lib.hid (below_next HB.out hb2)
    clear hb2
    go_wp2_with fail
    go_ret
    exact ⟨rfl, HB2.out⟩
  case pos =>
    have HOK := Lib.hid hok
    clear hok
    go_enter Try.func4, Try.ntmps4
    go_wp2_with fail
    refine (awake_ok _).mono ?_
    rintro e W ⟨rfl, hb⟩
    have HB := Lib.hid hb
    have HA0 := Lib.hid (HA0.out.below HB.out)
    have HA1 := Lib.hid (HA1.out.below HB.out)
    clear hb
    go_wp2_with fail
    refine (fo_new W _ _ _ _ _ _ _ _ _ [] ls [] (BytesAt.nil _ _) HA0.out (VsAt.nil _ _) (by omega) (by omega) (by omega) HOK.out).mono ?_
    rintro e W1 ⟨fg, rfl, hf⟩
    have hst : LastAt W W1 fg (.slice none 0 0) [] (newFr [] ls []).locs n0 (newFr [] ls []) :=
      ⟨hf.less (fun b e => by cases e), rfl, by show [].length + ls.length = n0; have := HA0.out.1; simpa using this, rfl, rfl, World.ownsRow_nil _ _ _ _, fun u hu => by cases hu⟩
    have HST := Lib.hid hst
    obtain ⟨L, hL⟩ : ∃ L, (newFr [] ls []).locs = L := ⟨_, rfl⟩
    rw [hL] at HST
    have HLL := Lib.hid hL
    clear hf hst hL
    go_wp2_with fail
    go_loopw [9, 10] (fun v i wr => ∃ (k : Nat) (ws : List V) (F : Fr), k ≤ n1 ∧ ws.length ≤ k ∧ i = .int .i64 k ∧ LastAt W wr fg v ws L n0 F) (fun _ i _ => n1 - (intOf i).toNat)
    case atStart => exact ⟨0, [], _, by omega, by simp, rfl, HST.out⟩
    case round =>
      clear HST
      obtain ⟨k, ws, F, hk, hwk, rfl, ha⟩ := hrel
      obtain ⟨A, cap, hform⟩ := ha.form
      subst hform
      obtain ⟨m, hm⟩ : ∃ m, ws.length = m := ⟨_, rfl⟩
      rw [hm] at hwk
      have HM := Lib.hid hm
      have m1 : (m : Int) ≤ (k : Int) := by omega
      have hsz := ha.fo.size
      rw [ha.mn, ha.st] at hsz
      have m2 : m ≤ 256 := by omega
      have m3 : (m : Int) ≤ 256 := by omega
      have HA := Lib.hid ha
      clear ha hsz
      simp only [hm] at HA ⊢
      clear hm
      by_cases hlt : k < n1
      · have hkl : k < vs.length := by rw [HA1.out.1]; exact hlt
        obtain ⟨ga, oa, rfl, hga, hvo, hd0, hd1, hd2⟩ := HA1.out.2 k hkl
        have d0 := (HA.out.fo.bw.cell (p := ⟨ga, oa + k * 3, none⟩) hga).trans hd0
        have d1 := (HA.out.fo.bw.cell (p := ⟨ga, oa + k * 3 + 1, none⟩) hga).trans hd1
        have d2 := (HA.out.fo.bw.cell (p := ⟨ga, oa + k * 3 + 2, none⟩) hga).trans hd2
        have k1 : (k : Int) < (n1 : Int) := by omega
        have hgl : ga < wr.heap.size := Nat.lt_of_lt_of_le hga HA.out.fo.bw.size
        obtain ⟨u, hu⟩ : ∃ u, vs[k] = u := ⟨_, rfl⟩
        rw [hu] at hvo d0 d1 d2 hd0 hd1 hd2
        have HVO := Lib.hid hvo
        clear hvo hu
        obtain ⟨x0, x1, x2⟩ := u
        dsimp only at d0 d1 d2 hd0 hd1 hd2
        have hx0 : 0 ≤ x0 ∧ x0 ≤ 255 := HVO.out.1
        obtain ⟨x00, x01⟩ := hx0
        obtain ⟨room, hroom⟩ : ∃ b, pushB F (x0, x1, x2) = b := ⟨_, rfl⟩
        have HRM := Lib.hid hroom
        have hr2 : room = (decide (1 ≤ x0 ∧ x0 ≤ 3) && decide (n0 + m < 256)) := by
          rw [← hroom]
          unfold pushB kindB
          rw [HA.out.mn, HA.out.st, HM.out]
        have HR2 := Lib.hid hr2
        have HD := Lib.hid (And.intro (hd0) (And.intro hd1 hd2))
        clear hroom hr2 hd0 hd1 hd2
        go_upto_region 12 with fail
        go_cut [11] (fun s11 wx => s11 = .bool room ∧ wx = wr)
        case first =>
          by_cases r1 : 1 ≤ x0
          · by_cases r2 : x0 ≤ 3
            · have r3 : (n0 : Int) + (m : Int) ≤ 1000 := by omega
              go_wp2_with fail
              go_meet
              refine ⟨?_, rfl⟩
              rw [HR2.out, decide_eq_true (show 1 ≤ x0 ∧ x0 ≤ 3 from ⟨r1, r2⟩), Bool.true_and]
              congr 1
              simp only [decide_eq_decide]
              omega
            · have r3 : decide (x0 ≤ 3) = false := decide_eq_false r2
              go_wp2_with fail
              go_meet
              refine ⟨?_, rfl⟩
              rw [HR2.out, decide_eq_false (show ¬ (1 ≤ x0 ∧ x0 ≤ 3) from fun h => by omega), Bool.false_and]
          · have r3 : decide (1 ≤ x0) = false := decide_eq_false r1
            go_wp2_with fail
            go_meet
            refine ⟨?_, rfl⟩
            rw [HR2.out, decide_eq_false (show ¬ (1 ≤ x0 ∧ x0 ≤ 3) from fun h => by omega), Bool.false_and]
        case rest =>
          obtain ⟨rfl, rfl⟩ := hcut
          go_wp2_with fail
          have hp := fo_push HA.out.fo (x0, x1, x2) HVO.out
          unfold vagg at hp
          dsimp only at hp
          rw [HRM.out] at hp
          refine hp.mono ?_
          rintro e w2 ⟨rfl, hf⟩
          have HF := Lib.hid hf
          have dd := hf.1.bw
          have d0 := (dd.cell (p := ⟨ga, oa + k * 3, none⟩) hga).trans (HD.out.1)
          have d1 := (dd.cell (p := ⟨ga, oa + k * 3 + 1, none⟩) hga).trans (HD.out.2.1)
          have d2 := (dd.cell (p := ⟨ga, oa + k * 3 + 2, none⟩) hga).trans (HD.out.2.2)
          have hgl : ga < w2.heap.size := Nat.lt_of_lt_of_le hga dd.size
          have hrow := row_kept hf.2 HA.out.row (fun b e => e)
          rw [HM.out] at hrow
          have HROW := Lib.hid hrow
          have hbs := dd.size
          clear hp hf dd hrow
          go_upto_if 79 with fail
          go_cut [9] (fun v' wx => ∃ (ws' : List V) (F' : Fr), ws'.length ≤ k + 1 ∧ LastAt W wx fg v' ws' L n0 F')
          case first =>
            cases room with
            | true =>
              have hnm : m + 1 ≤ maxLen := by unfold maxLen; omega
              have hnb : (m + 1) * 24 ≤ 140737488355328 := by omega
              have hpf : pushF F (x0, x1, x2) = { F with stk := F.stk ++ [(x0, x1, x2)] } := by unfold pushF; rw [HRM.out]; rfl
              rw [hpf] at HF
              clear hpf
              go_wp2_with (first | (refine wpList_append_own_at _ rfl (.tmp 80) (.tmp 85) 35 rfl W.heap.size 37 i37 (.agg #[.int .u8 0, .int .i64 0, .int .i64 0]) 3 24 Try.underlying35 hi hz0 hz1 hz2 rfl (by decide) (.slice A m cap) m (vcs ws) rfl (HROW.out.alloc _) ⟨w2.heap.size, 0, none⟩ 1 1 [.int .u8 x0, .int .i64 x1, .int .i64 x2] rfl rfl (three_new _ _ _ _ _) (three_one _ _ _) hnm hnb (by simp; omega) ?_; intro v' w3 hown hgrow hnil hat; have HOWN := Lib.hid hown; have HGROW := Lib.hid hgrow; have HAT := Lib.hid hat; clear hown hgrow hnil hat) | fail)
              go_meet
              refine ⟨ws ++ [(x0, x1, x2)], { F with stk := F.stk ++ [(x0, x1, x2)] }, by rw [List.length_append, HM.out]; simp; omega, ?_⟩
              refine HA.out.more ⟨?_, HVO.out⟩ HF.out ?_ ((Below.refl _ _).alloc (Nat.le_refl _) _) HGROW.out HAT.out
              · have := HRM.out
                unfold pushB at this
                simp only [Bool.and_eq_true] at this
                exact this.1
              · rw [HM.out]
                exact HOWN.out
            | false =>
              have hpf : pushF F (x0, x1, x2) = F := by unfold pushF; rw [HRM.out]; rfl
              rw [hpf] at HF
              clear hpf
              go_wp2_with fail
              go_meet
              refine ⟨ws, F, by rw [HM.out]; omega, ?_⟩
              have ha := HA.out
              exact { ha with fo := HF.out.1, row := by rw [HM.out]; exact HROW.out }
          case rest =>
            obtain ⟨ws2, F2, hl2, ha2⟩ := hcut
            clear HA HF HROW d0 d1 d2 hgl HRM HR2 HVO HM
            obtain ⟨A2, cap2, hform⟩ := ha2.form
            subst hform
            have hdiv : 0 < 1 + ev := by omega
            have hrem0 := Int.emod_nonneg (k : Int) (show (1 + ev) ≠ 0 by omega)
            have hrem1 := Int.emod_lt_of_pos (k : Int) hdiv
            rcases List.eq_nil_or_concat ws2 with e | ⟨l, u, e⟩
            · subst e
              have HA2 := Lib.hid ha2
              clear ha2
              go_wp2_with fail
              go_roundw
              case rel => exact ⟨k + 1, [], F2, by omega, by simp, by go_num, HA2.out⟩
              case measure => simp [intOf]; omega
            · rw [List.concat_eq_append] at e
              subst e
              simp only [List.length_append, List.length_singleton] at ha2 hl2 ⊢
              obtain ⟨q, hq⟩ : ∃ q, l.length = q := ⟨_, rfl⟩
              have HQ := Lib.hid hq
              rw [hq] at ha2 hl2 ⊢
              have hsz := ha2.fo.size
              rw [ha2.st] at hsz
              simp only [List.length_append, List.length_singleton] at hsz
              have q1 : (q : Int) ≤ 256 := by omega
              have HA2 := Lib.hid ha2
              clear ha2 hq hsz
              by_cases hrem : (k : Int) % (1 + ev) = 0
              · have t5 : ((k : Int) % (1 + ev) == 0) = true := by simp [hrem]
                clear hrem
                obtain ⟨tp1, tp2, tp3, tp4, tp5, -⟩ := HA2.out.top
                have hp := fo_pop HA2.out.fo 0 ⟨by omega, by omega⟩
                rw [tp3, tp4, tp5] at hp
                obtain ⟨g, cap3, hform, hcap, -⟩ := HA2.out.at (i := q) (by rw [List.length_append, HQ.out]; simp)
                simp only [List.length_append, List.length_singleton] at hform hcap
                injection hform with e1 e2 e3
                subst e1
                subst e3
                rw [HQ.out] at hcap
                clear e2 tp1 tp2 tp3 tp4 tp5
                have q2 : (q : Int) ≤ (cap2 : Int) := by omega
                have q3 : q ≤ cap2 := by omega
                obtain ⟨y0, y1, y2⟩ := u
                unfold vagg at hp
                dsimp only at hp
                have hn := fun W => val_neq y0 y1 y2 y0 y1 y2 W true (by simp)
                have HP := Lib.hid hp
                clear hp
                go_wp2_with fail
                refine HP.out.mono ?_
                rintro e w4 ⟨rfl, hf⟩
                have hr := row_kept hf.2 HA2.out.row (fun b e => e)
                have e9 : (l ++ [(y0, y1, y2)]).length = q + 1 := by rw [List.length_append, HQ.out]; rfl
                rw [e9] at hr
                obtain ⟨g0, g1, g2, g3⟩ := rowcells hr (i := q) (by rw [e9]; omega)
                have hy : (l ++ [(y0, y1, y2)])[q]'(by rw [e9]; omega) = (y0, y1, y2) := by simp [← HQ.out]
                rw [hy] at g0 g1 g2
                dsimp only at g0 g1 g2
                have hq2 := HA2.out
                rw [← HQ.out] at hq2
                rw [← HQ.out] at hf
                have HL := Lib.hid (hq2.less hf)
                clear hf hr hy hq2 HP e9
                go_wp2_with fail
                go_quiet (fail)
                go_wp2_with fail
                go_roundw
                case rel =>
                  refine ⟨k + 1, l, { F2 with stk := l }, by omega, by rw [HQ.out]; omega, by go_num, ?_⟩
                  rw [← HQ.out]
                  exact (HL.out.below ((Below.refl _ _).alloc (Nat.le_refl _) _)).below (below_drewN (Below.refl _ _) _)
                case measure => simp [intOf]; omega
              · have t5 : ((k : Int) % (1 + ev) == 0) = false := by simp [hrem]
                clear hrem
                go_wp2_with fail
                go_roundw
                case rel => exact ⟨k + 1, l ++ [u], F2, by omega, by simp; rw [HQ.out]; omega, by go_num, HA2.out⟩
                case measure => simp [intOf]; omega
      · have hkn : n1 = k := by omega
        subst hkn
        have hd := HA.out.down
        rw [HM.out] at hd
        have HDN := Lib.hid hd
        clear hd HA
        go_wp2_with fail
        go_loopw [14] (fun i wr => ∃ (j : Nat) (F : Fr), j ≤ m ∧ i = .int .i64 ((j : Int) - 1) ∧ DownAt W wr fg (.slice A m cap) ws L n0 j F) (fun i _ => (intOf i + 1).toNat)
        case atStart => exact ⟨m, F, by omega, rfl, HDN.out⟩
        case round =>
          clear HDN
          obtain ⟨j, F, hj, rfl, hd⟩ := hrel
          cases j with
          | succ j =>
            have e9 : ((j + 1 : Nat) : Int) - 1 = (j : Int) := by omega
            rw [e9]
            clear e9
            have hjw : j < ws.length := by rw [HM.out]; omega
            obtain ⟨u, hu⟩ : ∃ u, ws[j] = u := ⟨_, rfl⟩
            have hst : F.stk = ws.take j ++ [u] := by rw [hd.st, List.take_succ_eq_append_getElem hjw, hu]
            have hok := hd.ok ws[j] (List.getElem_mem hjw)
            rw [hu] at hok
            obtain ⟨g, capg, hform⟩ : ∃ g capg, A = some ⟨g, 0, none⟩ ∧ capg = cap := by
              rcases hd.row.2 with ⟨e, e2⟩ | ⟨g, c, cur, e, -⟩
              · omega
              · injection e with e1 e2 e3; exact ⟨g, c, e1, e3.symm⟩
            obtain ⟨rfl, -⟩ := hform
            have hrow := hd.row
            rw [HM.out] at hrow
            obtain ⟨g0, g1, g2, g3⟩ := rowcells hrow hjw
            rw [hu] at g0 g1 g2
            have HRW := Lib.hid hrow
            have HD := Lib.hid hd
            have HST := Lib.hid hst
            have HU := Lib.hid hu
            have HJW := Lib.hid hjw
            have j1 : (j : Int) < (m : Int) := by omega
            clear hd hst hu hrow
            obtain ⟨y0, y1, y2⟩ := u
            obtain ⟨hkd, hvo⟩ := hok
            have hy := of_decide_eq_true hkd
            dsimp only at hy g0 g1 g2
            obtain ⟨yl, yh⟩ := hy
            have HKV := Lib.hid (And.intro hkd hvo)
            clear hkd hvo
            obtain ⟨tp1, tp2, tp3, tp4, tp5⟩ := pop_this HST.out
            have hp := fo_top HD.out.fo
            rw [tp1, tp2] at hp
            unfold vagg at hp
            dsimp only at hp
            have HP := Lib.hid hp
            have TP := Lib.hid (And.intro tp3 (And.intro tp4 tp5))
            clear tp1 tp2 tp3 tp4 tp5 hp
            go_wp2_with fail
            refine HP.out.mono ?_
            rintro e w2 ⟨rfl, hb⟩
            have hf2 := (HD.out.fo.below hb).alloc (.cells #[.int .u8 y0, .int .i64 y1, .int .i64 y2] 37)
            have hbt := Blk.new w2 #[.int .u8 y0, .int .i64 y1, .int .i64 y2] 37
            have hr2 := (Touch.of_below hb (Nat.le_refl _) (fun _ => False)).row HRW.out (fun _ _ _ _ e => e)
            obtain ⟨g0, g1, g2, g3⟩ := rowcells hr2 HJW.out
            rw [HU.out] at g0 g1 g2
            dsimp only at g0 g1 g2
            have HF2 := Lib.hid hf2
            have HBT := Lib.hid hbt
            have HR2 := Lib.hid (hr2.alloc (.cells #[.int .u8 y0, .int .i64 y1, .int .i64 y2] 37))
            clear hb hf2 hbt hr2 HP
            go_wp2_with fail
            obtain ⟨bt, hbt⟩ : ∃ bt, w2.heap.size = bt := ⟨_, rfl⟩
            obtain ⟨X2, hX2⟩ : ∃ X2, w2.alloc (.cells #[.int .u8 y0, .int .i64 y1, .int .i64 y2] 37) = X2 := ⟨_, rfl⟩
            rw [hX2] at HF2 HBT HR2 ⊢
            rw [hbt] at HF2 HBT ⊢
            clear hX2 hbt g0 g1 g2 g3
            have hk2 : y0 % 3 + 1 ≠ 0 := by omega
            have hk3 : y0 ≠ y0 % 3 + 1 := by omega
            obtain ⟨tq1, tq2, tq3⟩ := pop_other HST.out hk2 hk3
            have hp := fo_pop HF2.out (y0 % 3 + 1) ⟨by omega, by omega⟩
            rw [tq1, tq2, tq3] at hp
            unfold vagg zv at hp
            dsimp only at hp
            have HP := Lib.hid hp
            clear hp hk2 hk3 tq1 tq2 tq3
            refine HP.out.mono ?_
            rintro e w3 ⟨rfl, hf⟩
            have hf3 := hf.1.alloc (.cells #[.int .u8 0, .int .i64 0, .int .i64 0] 37)
            have hbt := (hf.blk HBT.out (.inr rfl)).alloc (.cells #[.int .u8 0, .int .i64 0, .int .i64 0] 37)
            have hr3 := row_kept hf.2 HR2.out (fun b e => .inl e)
            obtain ⟨g0, g1, g2, g3⟩ := rowcells hr3 HJW.out
            rw [HU.out] at g0 g1 g2
            dsimp only at g0 g1 g2
            have HF3 := Lib.hid hf3
            have HBT := Lib.hid hbt
            have HR3 := Lib.hid (hr3.alloc (.cells #[.int .u8 0, .int .i64 0, .int .i64 0] 37))
            clear hf hf3 hbt hr3 HP HF2 HR2
            go_wp2_with fail
            obtain ⟨X3, hX3⟩ : ∃ X3, w3.alloc (.cells #[.int .u8 0, .int .i64 0, .int .i64 0] 37) = X3 := ⟨_, rfl⟩
            rw [hX3] at HF3 HBT HR3 ⊢
            clear hX3 g0 g1 g2 g3
            have hp := fo_pop HF3.out y0 ⟨by omega, by omega⟩
            have TPo := TP.out
            rw [TPo.1, TPo.2.1, TPo.2.2] at hp
            unfold vagg at hp
            dsimp only at hp
            have HP := Lib.hid hp
            clear hp TPo
            refine HP.out.mono ?_
            rintro e w4 ⟨rfl, hf⟩
            have hbt := hf.blk HBT.out (.inl (.inr rfl))
            have b0 : w4.cell? ⟨bt, 0, none⟩ = some (.int .u8 y0) := hbt.c 0 _ rfl
            have b1 : w4.cell? ⟨bt, 1, none⟩ = some (.int .i64 y1) := hbt.c 1 _ rfl
            have b2 : w4.cell? ⟨bt, 2, none⟩ = some (.int .i64 y2) := hbt.c 2 _ rfl
            have hbl := hbt.l
            have hr4 := row_kept hf.2 HR3.out (fun b e => .inl (.inl e))
            obtain ⟨g0, g1, g2, g3⟩ := rowcells hr4 HJW.out
            rw [HU.out] at g0 g1 g2
            dsimp only at g0 g1 g2
            have hn := fun W => val_neq y0 y1 y2 y0 y1 y2 W true (by simp)
            have HDN : Hid (DownAt W w4 fg (.slice (some ⟨g, 0, none⟩) m cap) ws L n0 j { F with stk := ws.take j }) :=
              Lib.hid ⟨hf.1.less (fun b e => .inl (.inl e)), rfl, HD.out.mn, HD.out.lc, HD.out.pl, by rw [HM.out]; exact hr4, HD.out.ok⟩
            clear hf hbt hr4 HP HF3 HR3 HBT TP
            go_wp2_with fail
            go_quiet (fail)
            go_wp2_with fail
            go_roundw
            case rel => exact ⟨j, { F with stk := ws.take j }, by omega, rfl, { HDN.out with fo := (HDN.out.fo.below ((Below.refl _ _).alloc (Nat.le_refl _) _)).drewN _, row := row_drewN (HDN.out.row.alloc _) _ }⟩
            case measure => simp [intOf]
          | zero =>
            have e9 : ((0 : Nat) : Int) - 1 = -1 := rfl
            rw [e9]
            have HF := Lib.hid (hd.fo.less (K' := fun _ => False) (fun b e => e.elim))
            have hst := hd.st
            have hmn := hd.mn
            have hlc := hd.lc
            have hpl := hd.pl
            rw [List.take_zero] at hst
            have HPR := Lib.hid (And.intro hst (And.intro hmn (And.intro hlc hpl)))
            clear hst hmn hlc hpl hd e9
            go_wp2_with fail
            go_loopw [21] (fun i wr => ∃ k : Nat, k ≤ n0 ∧ i = .int .i64 k ∧ FO W wr fg 0 F (fun _ => False)) (fun i _ => n0 - (intOf i).toNat)
            case atStart => exact ⟨0, by omega, rfl, HF.out⟩
            case round =>
              clear HF
              obtain ⟨k, hk, rfl, hf⟩ := hrel
              have HF := Lib.hid hf
              clear hf
              by_cases hlt : k < n0
              · have hkl : k < ls.length := by rw [HA0.out.1]; exact hlt
                obtain ⟨gb, ob, rfl, hgb, hkb, cb⟩ := HA0.out.2 k hkl
                have hg := fo_get HF.out k
                have hgb2 : getB F k = true := decide_eq_true (by rw [HPR.out.2.1]; omega)
                have hgv : getV F k = lz ls[k] := by
                  unfold getV
                  rw [hgb2, if_pos rfl, HPR.out.2.2.1, ← HLL.out, Int.toNat_natCast, newFr_loc ls hkl, Option.getD_some]
                rw [hgb2, hgv] at hg
                unfold vagg lz at hg
                dsimp only at hg
                generalize ls[k] = κ at *
                have HG := Lib.hid hg
                have k1 : (k : Int) < (n0 : Int) := by omega
                have hn := fun W => val_neq κ 0 0 κ 0 0 W true (by simp)
                clear hg hgb2 hgv
                go_wp2_with fail
                refine HG.out.mono ?_
                rintro e w5 ⟨rfl, hb⟩
                have hf := HF.out.below hb
                have cb2 := (hf.bw.cell (p := ⟨gb, ob + k, none⟩) hgb).trans cb
                have hgb3 : gb < w5.heap.size := Nat.lt_of_lt_of_le hgb hf.bw.size
                have HF5 := Lib.hid hf
                clear hb hf cb HG
                go_wp2_with fail
                go_quiet (fail)
                go_wp2_with fail
                go_roundw
                case rel => exact ⟨k + 1, by omega, by go_num, (HF5.out.below ((Below.refl _ _).alloc (Nat.le_refl _) _)).drewN _⟩
                case measure => simp [intOf]; omega
              · have hkn : n0 = k := by omega
                subst hkn
                have hz := fo_size HF.out
                rw [HPR.out.1, HPR.out.2.1] at hz
                simp only [List.length_nil, Int.natCast_zero, Int.add_zero] at hz
                have HZ := Lib.hid hz
                clear hz
                go_wp2_with fail
                refine HZ.out.mono ?_
                rintro e w6 ⟨rfl, nk, rfl⟩
                go_wp2_with fail
                have hpl := fo_place (HF.out.drewN nk)
                rw [HPR.out.2.2.2] at hpl
                refine hpl.mono ?_
                rintro e w7 ⟨rfl, rfl⟩
                go_wp2_with fail
                go_ret
                refine ⟨rfl, ?_⟩
                exact below_next HB.out (HF.out.drewN nk).bw

theorem last_all (A0 A1 : Option Addr) (n0 n1 c0 c1 : Nat) (ev : Int) (w : World) (he : 0 ≤ ev ∧ ev ≤ 255) (d0 : deepOk Try.prog w 8 34 [.slice A0 n0 c0]) (d1 : deepOk Try.prog w 8 35 [.slice A1 n1 c1]) :
    Calls Try.prog 4 #[.slice A0 n0 c0, .slice A1 n1 c1, .int .u8 ev] w fun e w' => e = .returned (.bool true) ∧ Below w.heap.size w w' := by
  obtain ⟨ls, h0⟩ := bytesAt_of (n := 4) d0
  obtain ⟨vs, h1⟩ := vsAt_of (n := 4) d1
  exact last_walk A0 A1 n0 n1 c0 c1 ev w ls vs h0 h1 he

end Go.Proofs.Ythllfeogchbihaa
