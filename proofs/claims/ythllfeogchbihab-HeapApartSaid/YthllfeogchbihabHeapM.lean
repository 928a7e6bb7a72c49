/- HeapApart's walk. -/
import Derived.Test.YthllfeogchbihabHeapL
import Derived.Maps.AppendAt
import Derived.ArgAppend
namespace Go.Proofs.Ythllfeogchbihab
open Go.RowKit Go.Shelf
set_option linter.unusedSimpArgs false
set_option linter.unusedVariables false

theorem ap_zero {w W : World} {gh gw n : Nat} (h : HO w W gh gw n []) (gs : Nat → Nat) : AP w W gh gw n (.slice none 0 0) [] [] := by
  obtain ⟨⟨base, A, cap, h0⟩, h1, h2, h3⟩ := h
  refine ⟨⟨base, A, cap, gs, h0, WantAt.nil _ _ _, ?_⟩, h1, h2, h3⟩
  rintro b (e | ⟨k, hk, -⟩)
  · cases e
  · simp at hk

theorem rem_u64 (r : Int) (q : Nat) (h : 0 < q) (h2 : q ≤ 5000) : ∃ p : Nat, p < q ∧ wrap64 ((IntKind.u64.wrap r).tmod (q : Int)) = (p : Int) := by
  have h0 : 0 ≤ IntKind.u64.wrap r := by
    show 0 ≤ r % 18446744073709551616
    omega
  have e : (IntKind.u64.wrap r).tmod (q : Int) = IntKind.u64.wrap r % (q : Int) := Int.tmod_eq_emod_of_nonneg h0
  have h3 := Int.emod_nonneg (IntKind.u64.wrap r) (show (q : Int) ≠ 0 by omega)
  have h4 := Int.emod_lt_of_pos (IntKind.u64.wrap r) (show (0 : Int) < q by omega)
  obtain ⟨p, hp⟩ := Int.eq_ofNat_of_zero_le h3
  refine ⟨p, by omega, ?_⟩
  rw [e, hp]
  unfold wrap64
  omega
theorem ap_drew {w W : World} {gh gw n : Nat} {v : Value} {hs ws : List (List Int)} (h : AP w W gh gw n v hs ws) : AP w W.drew gh gw n v hs ws := by
  have h0 := Below.refl W.heap.size W
  exact h.below ⟨h0.os, h0.tape, h0.output, h0.size, h0.block⟩
theorem ap_row {w W : World} {gh gw room : Nat} {v : Value} {hs ws : List (List Int)} (h : AP w W gh gw room v hs ws) {k : Nat} (hk : k < ws.length) :
    ∃ g gk cap, v = .slice (some ⟨g, 0, none⟩) ws.length cap ∧ W.cell? ⟨g, k, none⟩ = some (.slice (some ⟨gk, 0, none⟩) ws[k].length ws[k].length) ∧ ∀ j, (hj : j < ws[k].length) → W.cell? ⟨gk, j, none⟩ = some (.int .i64 ws[k][j]) := by
  obtain ⟨base, A, cap, gs, -, hw, -⟩ := h.ex
  obtain ⟨g, cap, hv, hc, -⟩ := hw.at hk
  exact ⟨g, gs k, cap, hv, hc, fun j hj => hw.cell hk hj⟩
theorem made_zero (n : Nat) (j : Nat) (hj : j < n) : (madeCells (Value.int .i64 0).cells (n * 1)).toList[j]? = some (.int .i64 0) := made_one n j hj _ rfl

set_option maxRecDepth 100000 in
set_option maxHeartbeats 4000000 in
theorem apart_in (n : Nat) (A : Option Addr) (m cap : Nat) (w : World) (hn : n ≤ 60) (hm : m ≤ 60) (hp : ActsAt w A m) :
    Calls Try.prog 5 #[.int .i64 n, .slice A m cap] w fun e w' => e = .returned (.bool true) ∧ Below w.heap.size w w' := by
  obtain ⟨i2, hi2, hz2, hs2, hy2⟩ := hp_parts info2
  obtain ⟨i25, hi, hz0, hz1, hzb⟩ := hp_parts info25
  have n1 : (n : Int) ≤ 60 := by omega
  have n0 : (0 : Int) ≤ (n : Int) := by omega
  have m1 : (m : Int) ≤ 60 := by omega
  have HP := Lib.hid hp
  clear hp
  go_enter Try.func5, Try.ntmps5
  go_wp2_with fail
  refine (awake_ok _).mono ?_
  rintro e w1 ⟨rfl, hb⟩
  have HB := Lib.hid hb
  clear hb
  go_wp2_with fail
  refine (ho_new n w1 (by omega)).mono ?_
  rintro e w2 ⟨gh, gw, rfl, h2⟩
  have hho : HO w w2 gh gw n [] := ⟨h2.ex, HB.out.trans (h2.bw.mono HB.out.size), Nat.le_trans HB.out.size h2.g1, Nat.le_trans HB.out.size h2.g2⟩
  have HH := Lib.hid (ap_zero hho (fun _ => 0))
  clear h2 hho HB
  go_wp2_with fail
  go_loopw [7, 8] (fun wv i wr => ∃ (k : Nat) (arrs : List (List Int)), k ≤ m ∧ arrs.length ≤ k ∧ i = .int .i64 k ∧ AP w wr gh gw n wv arrs arrs) (fun _ i _ => m - (intOf i).toNat)
  case atStart => exact ⟨0, [], by omega, by simp, rfl, HH.out⟩
  case round =>
    obtain ⟨k, arrs, hk, hak, rfl, hwr⟩ := hrel
    by_cases hlt : k < m
    · obtain ⟨ga, oa, ka, ra, xa, va, rfl, hga, hka, hra, hxa, hva, hc0, hc1, hc2, hc3⟩ := HP.out k hlt
      have d0 := (hwr.bw.cell (p := ⟨ga, oa + k * 4, none⟩) hga).trans hc0
      have d1 := (hwr.bw.cell (p := ⟨ga, oa + k * 4 + 1, none⟩) hga).trans hc1
      have d2 := (hwr.bw.cell (p := ⟨ga, oa + k * 4 + 2, none⟩) hga).trans hc2
      have d3 := (hwr.bw.cell (p := ⟨ga, oa + k * 4 + 3, none⟩) hga).trans hc3
      have HWR := Lib.hid hwr
      obtain ⟨⟨base, A, cap', gs, h0, hw, hd⟩, h1, h2, h3⟩ := hwr
      have FB := Lib.hid (fun b hb => (hw.foot b hb).2)
      have FG : gw < wr.heap.size := h0.hw.l
      have H0 := Lib.hid h0
      have HW := Lib.hid hw
      have HD := Lib.hid hd
      have H1 := Lib.hid h1
      clear hc0 hc1 hc2 hc3 h0 hw hd h1
      obtain ⟨q, hq⟩ : ∃ q, arrs.length = q := ⟨_, rfl⟩
      have HQ := Lib.hid hq
      rw [hq] at hak
      clear hq
      obtain ⟨Wv, cv, hform⟩ : ∃ A cap, u7 = .slice A q cap := by
        obtain ⟨base, A, cap, gs, -, h, -⟩ := HWR.out.ex
        obtain ⟨A, cap, e⟩ := h.form
        exact ⟨A, cap, by rw [← HQ.out]; exact e⟩
      subst hform
      go_upto_region 13 with fail
      obtain ⟨W0, hW0⟩ : ∃ W0, wr.alloc (.cells #[.int .u8 ka, .int .i64 ra, .int .i64 xa, .int .i64 va] 23) = W0 := ⟨_, rfl⟩
      have hB0 : Below wr.heap.size wr W0 := by rw [← hW0]; exact (Below.refl _ _).alloc (Nat.le_refl _) _
      have e0 : Blk W0 wr.heap.size [.int .u8 ka, .int .i64 ra, .int .i64 xa, .int .i64 va] := by rw [← hW0]; exact Blk.new wr _ _
      rw [hW0]
      obtain ⟨ba, hba⟩ : ∃ ba, wr.heap.size = ba := ⟨_, rfl⟩
      have hwr := HWR.out.below hB0
      have H0' := Lib.hid (H0.out.below hB0)
      have HW' := Lib.hid (HW.out.touch (Touch.of_below hB0 (Nat.le_refl _) (fun _ => False)) (fun _ _ e => e))
      have H1' := Lib.hid (below_next H1.out hB0)
      have bb : w.heap.size ≤ ba := by rw [← hba]; exact HWR.out.bw.size
      rw [hba] at e0 FB FG
      rw [hba]
      clear HWR hB0 hW0 hba d0 d1 d2 d3 H0 HW H1
      have a0 : W0.cell? ⟨ba, 0, none⟩ = some (.int .u8 ka) := e0.c 0 _ rfl
      have a1 : W0.cell? ⟨ba, 1, none⟩ = some (.int .i64 ra) := e0.c 1 _ rfl
      have a2 : W0.cell? ⟨ba, 2, none⟩ = some (.int .i64 xa) := e0.c 2 _ rfl
      have a3 : W0.cell? ⟨ba, 3, none⟩ = some (.int .i64 va) := e0.c 3 _ rfl
      have HWR := Lib.hid hwr
      have E0 := Lib.hid e0
      clear hwr e0
      go_upto_if 56 with fail
      go_cut [7] (fun s7 wx => ∃ arrs' : List (List Int), arrs'.length ≤ k + 1 ∧ AP w wx gh gw n s7 arrs' arrs')
      case first =>
        as_aux_lemma =>
        by_cases hev : (ka % 2 == 0) = true
        · obtain ⟨y, hy8, hy⟩ := rem_u64 va 8 (by omega) (by omega)
          have hy' : wrap64 ((IntKind.u64.wrap va).tmod 8) = (y : Int) := hy
          have y1 : (y : Int) < 8 := by omega
          have MK := ap_make HWR.out (y : Int) (by rw [HQ.out]; omega)
          have hmr : fitsB n arrs (y : Int) = true → mkRef n arrs (y : Int) = (q : Int) + 1 := fun e => by unfold mkRef; rw [if_pos e, HQ.out]
          have hme := mkErr_zero n arrs (y : Int)
          have hma : mkArrs n arrs (y : Int) = if fitsB n arrs (y : Int) then arrs ++ [List.replicate y 0] else arrs := rfl
          rw [hma] at MK
          generalize mkRef n arrs (y : Int) = R1 at *
          generalize mkErr n arrs (y : Int) = X1 at *
          clear hy hma
          by_cases hx : X1 = 0
          · have hf := hme.1 hx
            subst hx
            have hr := hmr hf
            rw [hr, if_pos hf] at MK
            clear hmr hr hme hf R1
            have MK2 := Lib.hid MK
            clear MK HWR E0 a1 a2 H0' HW' H1'
            go_wp2_with fail
            refine MK2.out.mono ?_
            rintro e w3 ⟨rfl, hap⟩
            clear MK2 a0 a3 HD FB
            obtain ⟨⟨base3, A3, cap3, gs3, h0, hw, hd⟩, h1, h2', h3'⟩ := hap
            have hrow := hw.row
            rw [HQ.out] at hrow
            have H0 := Lib.hid h0
            have HW := Lib.hid hw
            have HD := Lib.hid hd
            have H1 := Lib.hid h1
            have HROW := Lib.hid hrow
            have hs1 := h1.size
            clear h0 hw hd h1 hrow
            have hbb : i2.bytes * y ≤ 281474976710656 := by rw [hy2]; omega
            have hbn : y ≤ maxLen := by unfold maxLen; omega
            have hqm : q + 1 ≤ maxLen := by unfold maxLen; omega
            have hqb : (q + 1) * 24 ≤ 140737488355328 := by omega
            by_cases hcp : q + 1 ≤ cv
            · obtain ⟨gr, hgr⟩ : ∃ gr, Wv = some ⟨gr, 0, none⟩ := by
                rcases HROW.out.2 with ⟨e, -⟩ | ⟨g, c, cur, e, -⟩
                · injection e with e1 e2 e3; omega
                · injection e with e1 e2 e3; exact ⟨g, e1⟩
              subst hgr
              go_wp2_with (first | (refine wpList_make_full _ rfl _ _ 25 rfl w3.heap.size 2 i2 (.int .i64 0) 1 Try.underlying25 hi2 hz2 hs2 .i64 .i64 (y : Int) (y : Int) y rfl rfl rfl rfl hbb hbn (Nat.le_refl _) ?_; intro w4 hown hgrow) | (refine wpList_append_fits _ rfl (.tmp 70) (.tmp 73) 26 rfl w.heap.size 25 i25 1 Try.underlying26 hi hz1 gr q cv (wrow gs3 arrs) rfl ((((Touch.refl (fun _ => False) _).grown hgrow (fun k e => by cases e)).row HROW.out (fun _ _ _ _ e => e)).alloc _) ⟨w4.heap.size, 0, none⟩ 1 1 [.slice (some ⟨w3.heap.size, 0, none⟩) y y] rfl rfl (cell_one_new _ _ _) (by simp [Value.oneCell']) hcp ?_; intro w5 hown5 hgrow5) | fail)
              go_meet
              refine ⟨arrs ++ [List.replicate y 0], by rw [List.length_append, HQ.out]; simp; omega, ?_⟩
              have hb4 : Below w4.heap.size w4 (w4.alloc (.cells #[.slice (some ⟨w3.heap.size, 0, none⟩) y y] 25)) := (Below.refl _ _).alloc (Nat.le_refl _) _
              have := ap_append H0.out HW.out HD.out H1.out h2' h3' hown (fun j hj => made_zero y j hj) hgrow hb4 (g' := gr) (cap' := cv) (HQ.out.symm ▸ hown5) hgrow5 (.inl rfl)
              rw [HQ.out] at this
              exact this
            · have OLD : Hid (∀ b, Wv = some b → ∀ j u, (wrow gs3 arrs)[j]? = some u → (b.add j).block < w3.heap.size ∧ w3.cell? (b.add j) = some u) := by
                apply Lib.hid
                intro b hb j u hj
                subst hb
                have hr := HROW.out
                rcases hr.2 with ⟨e, -⟩ | ⟨g, c, cur, e, hb, hc, h8⟩
                · injection e with e; cases e
                · injection e with e; injection e with e; subst e
                  exact ⟨by have := (Array.getElem?_eq_some_iff.1 hc).1; unfold Addr.add; split <;> exact this, hr.cells rfl j u hj⟩
              have hnil : Wv = none → q = 0 ∧ cv = 0 := by
                intro e
                subst e
                rcases HROW.out.2 with ⟨e, e2⟩ | ⟨g, c, cur, e, hb, hc, h8⟩
                · injection e with e1 e2 e3; exact ⟨e2, e3⟩
                · injection e with e; cases e
              have hql : (wrow gs3 arrs).length = q := by rw [wrow_length, HQ.out]
              go_wp2_with (first | (refine wpList_make_full _ rfl _ _ 25 rfl w3.heap.size 2 i2 (.int .i64 0) 1 Try.underlying25 hi2 hz2 hs2 .i64 .i64 (y : Int) (y : Int) y rfl rfl rfl rfl hbb hbn (Nat.le_refl _) ?_; intro w4 hown hgrow) | (refine wpList_append_grows _ rfl (.tmp 70) (.tmp 73) 26 rfl 25 i25 (.slice none 0 0) 1 24 Try.underlying26 hi hz0 hz1 hzb rfl (by decide) Wv q cv (wrow gs3 arrs) rfl hnil (by rw [hql, Nat.mul_one]) (fun b hb j u hj => ((((Below.refl _ _).alloc (Nat.le_refl _) _ : Below w4.heap.size w4 _).cell (p := b.add j) (Nat.lt_of_lt_of_le (OLD.out b hb j u hj).1 hgrow.size)).trans (World.cell?_of_block (hgrow.block _ (OLD.out b hb j u hj).1 (by simp)))).trans (OLD.out b hb j u hj).2) ⟨w4.heap.size, 0, none⟩ 1 1 [.slice (some ⟨w3.heap.size, 0, none⟩) y y] rfl rfl (cell_one_new _ _ _) (by simp [Value.oneCell']) (by omega) hqm hqb ?_; intro v5 w5 hown5 hgrow5; obtain ⟨g5, cap5, rfl, hg5, hg6⟩ := World.ownsRow.form hown5 (by omega)) | fail)
              go_meet
              refine ⟨arrs ++ [List.replicate y 0], by rw [List.length_append, HQ.out]; simp; omega, ?_⟩
              have hb4 : Below w4.heap.size w4 (w4.alloc (.cells #[.slice (some ⟨w3.heap.size, 0, none⟩) y y] 25)) := (Below.refl _ _).alloc (Nat.le_refl _) _
              have hsz4 := hgrow.size
              have hsz5 := hb4.size
              have := ap_append H0.out HW.out HD.out H1.out h2' h3' hown (fun j hj => made_zero y j hj) hgrow hb4 (g' := g5) (cap' := cap5) (HQ.out.symm ▸ hown5.mono (by omega)) (W3 := w5) ⟨hgrow5.os, hgrow5.tape, hgrow5.output, hgrow5.size, fun k hk _ => hgrow5.block k hk (by simp)⟩ (.inr hg5)
              rw [HQ.out] at this
              exact this
          · have hf : fitsB n arrs (y : Int) = false := by
              cases e : fitsB n arrs (y : Int)
              · rfl
              · exact absurd (hme.2 e) hx
            rw [hf] at MK
            have hx' : (X1 == 0) = false := by rw [beq_eq_false_iff_ne]; exact hx
            have MK2 := Lib.hid MK
            clear MK hmr hme hf hx HWR E0
            go_wp2_with fail
            refine MK2.out.mono ?_
            rintro e w3 ⟨rfl, h3⟩
            have H3 := Lib.hid h3
            clear h3 MK2
            go_wp2_with fail
            go_meet
            exact ⟨arrs, by rw [HQ.out]; omega, H3.out⟩
        · have hev' : (ka % 2 == 0) = false := by simpa using hev
          clear hev
          by_cases hq0 : q = 0
          · subst hq0
            go_wp2_with fail
            go_meet
            exact ⟨arrs, by rw [HQ.out]; omega, HWR.out⟩
          · have hq1 : (0 : Int) < (q : Int) := by omega
            obtain ⟨p, hpq, hp⟩ := rem_u64 ra q (by omega) (by omega)
            have H0 := H0'
            have HW := HW'
            have H1 := H1'
            clear H0' HW' H1'
            have hpl : p < arrs.length := by rw [HQ.out]; exact hpq
            obtain ⟨g, cap2, hv, hcell, hgl, hgne⟩ := HW.out.at hpl
            rw [HQ.out] at hv
            injection hv with hv1 hv2 hv3
            subst hv1
            subst hv3
            obtain ⟨L, hL⟩ : ∃ L, arrs[p].length = L := ⟨_, rfl⟩
            have hsz := H0.out.sm
            have hL5 : L ≤ 1024 := by have := st_le hpl; have := H0.out.rm; omega
            rw [hL] at hcell
            have HL := Lib.hid hL
            have p1 : (p : Int) < (q : Int) := by omega
            have p2 : (p : Int) ≤ 5000 := by omega
            have L5 : (L : Int) ≤ 1024 := by omega
            clear hL hsz
            by_cases hL0 : L = 0
            · subst hL0
              go_wp2_with fail
              refine ⟨⟨k + 1, arrs, by omega, by rw [HQ.out]; omega, by go_num, HWR.out⟩, by simp [intOf]; omega⟩
            · have L1 : (0 : Int) < (L : Int) := by omega
              obtain ⟨j, hjL, hj⟩ := rem_u64 xa L (by omega) (by omega)
              have j1 : (j : Int) < (L : Int) := by omega
              clear HWR
              go_wp2_with fail
              go_quiet (fail)
              rw [hj]
              have E1 := Lib.hid (E0.out.drewN nq)
              have HW1 := Lib.hid (HW.out.touch ((Touch.refl (fun _ => False) _).drewN nq) (fun _ _ e => e))
              have H01 := Lib.hid (H0.out.touch ((Touch.refl (fun _ => False) _).drewN nq) (fun _ _ e => e))
              have hB1 : Below w.heap.size w (W0.drewN nq) := ⟨H1.out.os, H1.out.tape, H1.out.output, H1.out.size, H1.out.block⟩
              have HB1 := Lib.hid hB1
              clear E0 HW H0 H1 hB1 a0 a1 a2 hcell hgl
              generalize W0.drewN nq = W1 at *
              have a3' : W1.cell? ⟨ba, 3, none⟩ = some (.int .i64 va) := E1.out.c 3 _ rfl
              clear a3
              have hjp : j < arrs[p].length := by rw [HL.out]; exact hjL
              have PT := Lib.hid (put_yes H01.out va hpl hjp)
              go_wp2_with fail
              refine PT.out.mono ?_
              rintro e W2 ⟨rfl, ht, hh⟩
              have hgwf : ∀ b, FW (.slice (some ⟨g, 0, none⟩) q cv) gs arrs.length b → ¬ b = gw := fun b hb e => HD.out b hb (.inr (.inl e))
              have hbaw : ¬ ba = gw := by omega
              have hw2 := HW1.out.touch ht hgwf
              have e2 := E1.out.touch ht hbaw
              have a3 : W2.cell? ⟨ba, 3, none⟩ = some (.int .i64 va) := e2.c 3 _ rfl
              obtain ⟨g', cap3, hv, hcell, hgl, -⟩ := hw2.at hpl
              rw [HL.out] at hcell
              have hg' : g' = g := by injection hv with hv; injection hv with hv; injection hv with hv; exact hv.symm
              subst hg'
              have hold := hw2.cell hpl hjp
              have hfz := (hw2.bk p hpl).f j
              have hne1 : ¬ gs p = ba := by have := FB.out (gs p) (.inr ⟨p, hpl, rfl⟩); omega
              have hne2 : ¬ ba = gs p := fun e => hne1 e.symm
              have hne3 : ¬ gs p = g' := fun e => hgne e.symm
              have HH2 := Lib.hid hh
              have HW2 := Lib.hid hw2
              have HT := Lib.hid ht
              clear hh hw2 e2 hv PT HW1 E1 H01 a3' ht hgwf
              generalize arrs[p][j] = zold at hold
              go_wp2_with fail
              go_region
              go_wp2_with fail
              go_meet
              have hB2 : Below w.heap.size w W2 := HB1.out.trans (HT.out.below HB1.out.size (fun b e => by have e' : b = gw := e; rw [e']; exact h3))
              refine ⟨arrs.set p (arrs[p].set j va), by rw [List.length_set, HQ.out]; omega, ap_drew ?_⟩
              exact ap_store HH2.out HW2.out HD.out hB2 h2 h3 hpl hjp va
      case rest =>
        as_aux_lemma =>
        obtain ⟨arrs2, hal, hap⟩ := hcut
        clear a0 a1 a2 a3 FB FG H0' HW' H1' HWR E0 HD
        obtain ⟨q2, hq2⟩ : ∃ q2, arrs2.length = q2 := ⟨_, rfl⟩
        have HQ2 := Lib.hid hq2
        rw [hq2] at hal
        clear hq2
        obtain ⟨Wv2, cv2, hform⟩ : ∃ A cap, u7 = .slice A q2 cap := by
          obtain ⟨base, A, cap, gs, -, h, -⟩ := hap.ex
          obtain ⟨A, cap, e⟩ := h.form
          exact ⟨A, cap, by rw [← HQ2.out]; exact e⟩
        subst hform
        have HAP := Lib.hid hap
        clear hap
        go_wp2_with fail
        go_loopw [15] (fun i wx => ∃ k2 : Nat, k2 ≤ q2 ∧ i = .int .i64 k2 ∧ AP w wx gh gw n (.slice Wv2 q2 cv2) arrs2 arrs2) (fun i _ => q2 - (intOf i).toNat)
        case atStart => exact ⟨0, by omega, rfl, HAP.out⟩
        case round =>
          clear HAP
          obtain ⟨k2, hk2, rfl, hap⟩ := hrel
          by_cases hlt2 : k2 < q2
          · have hpl : k2 < arrs2.length := by rw [HQ2.out]; exact hlt2
            obtain ⟨L, hL⟩ : ∃ L, arrs2[k2].length = L := ⟨_, rfl⟩
            have HL := Lib.hid hL
            have hsz := ap_sizes hap
            have hL5 : L ≤ 1024 := by have := st_le hpl; omega
            clear hL hsz
            obtain ⟨wo, hwo⟩ : ∃ wo : World, wo = wr := ⟨_, rfl⟩
            subst hwo
            have HAP := Lib.hid hap
            clear hap
            go_wp2_with fail
            go_loopw [16] (fun i wx => ∃ j2 : Nat, j2 ≤ L ∧ i = .int .i64 j2 ∧ AP w wx gh gw n (.slice Wv2 q2 cv2) arrs2 arrs2) (fun i _ => L - (intOf i).toNat)
            case atStart => exact ⟨0, by omega, rfl, HAP.out⟩
            case round =>
              clear HAP
              obtain ⟨j2, hj2, rfl, hap⟩ := hrel
              obtain ⟨g, gk, cap2, hgf, hcell, hword⟩ := ap_row hap hpl
              rw [HL.out] at hcell
              rw [HQ2.out] at hgf
              injection hgf with hg1 hg2 hg3
              subst hg1
              subst hg3
              clear hg2
              by_cases hlt3 : j2 < L
              · have hjl : j2 < arrs2[k2].length := by rw [HL.out]; exact hlt3
                have AT := Lib.hid (ap_at_yes hap hpl hjl)
                have HAP := Lib.hid hap
                clear hap hword
                generalize hx : arrs2[k2][j2] = x at AT
                have HX := Lib.hid hx
                clear hx
                go_wp2_with fail
                refine AT.out.mono ?_
                rintro e w4 ⟨rfl, hb⟩
                have hap4 := HAP.out.below hb
                clear HAP AT hb hcell
                obtain ⟨g', gk', cap3, hgf, hcell, hword⟩ := ap_row hap4 hpl
                have hwd := hword j2 hjl
                clear hword
                rw [HX.out] at hwd
                rw [HL.out] at hcell
                rw [HQ2.out] at hgf
                injection hgf with hg1 hg2 hg3
                injection hg1 with hg1
                injection hg1 with hg1
                subst hg1
                have HAP := Lib.hid hap4
                clear hap4 hg2 hg3
                go_wp2_with fail
                go_roundw
                case rel => exact ⟨j2 + 1, by omega, by go_num, HAP.out⟩
                case measure => simp [intOf]; omega
              · obtain rfl : j2 = L := by omega
                have AT := ap_at_end hap hpl
                rw [HL.out] at AT
                have AT := Lib.hid AT
                have HAP := Lib.hid hap
                clear hap hword
                go_wp2_with fail
                refine AT.out.mono ?_
                rintro e w4 ⟨rfl, hb⟩
                have hap4 := HAP.out.below hb
                clear HAP AT hb hcell
                have LN := ap_len hap4 hpl
                rw [HL.out] at LN
                have LN := Lib.hid LN
                have HAP := Lib.hid hap4
                clear hap4
                go_wp2_with fail
                refine LN.out.mono ?_
                rintro e w5 ⟨rfl, hb⟩
                have hap5 := HAP.out.below hb
                clear HAP LN hb
                obtain ⟨g', gk', cap3, hgf, hcell, -⟩ := ap_row hap5 hpl
                rw [HL.out] at hcell
                rw [HQ2.out] at hgf
                injection hgf with hg1 hg2 hg3
                injection hg1 with hg1
                injection hg1 with hg1
                subst hg1
                have HAP := Lib.hid hap5
                clear hap5 hg2 hg3
                go_wp2_with fail
                go_roundw
                case rel => exact ⟨k2 + 1, by omega, by go_num, HAP.out⟩
                case measure => simp [intOf]; omega
          · obtain rfl : k2 = q2 := by omega
            go_wp2_with fail
            refine ⟨⟨k + 1, arrs2, by omega, by rw [HQ2.out]; omega, by go_num, hap⟩, by simp [intOf]; omega⟩
    · obtain rfl : k = m := by omega
      go_wp2_with fail
      go_ret
      exact ⟨rfl, hwr.bw⟩

theorem apart_all (words : Int) (A : Option Addr) (m cap : Nat) (w : World) {n : Nat} (d : deepOk Try.prog w (n + 4) 39 [.slice A m cap]) :
    Calls Try.prog 5 #[.int .i64 words, .slice A m cap] w fun e w' => e = .returned (.bool true) ∧ Below w.heap.size w w' := by
  by_cases h1 : 0 ≤ words
  · obtain ⟨n, rfl⟩ := Int.eq_ofNat_of_zero_le h1
    by_cases h2 : n ≤ 60
    · by_cases h3 : m ≤ 60
      · exact apart_in n A m cap w h2 h3 (actsAt_of d)
      · exact apart_out _ A m cap w (.inr (.inr (by omega)))
    · exact apart_out _ A m cap w (.inr (.inl (by omega)))
  · exact apart_out _ A m cap w (.inl (by omega))

end Go.Proofs.Ythllfeogchbihab
