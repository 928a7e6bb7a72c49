/- MemOwn: the law's walk: where there is room. -/
import Derived.Test.YthllfeogchbihacMemU
import Derived.Deep.CutBlock
namespace Go.Proofs.Ythllfeogchbihac
open Go.RowKit
set_option linter.unusedSimpArgs false
set_option linter.unusedVariables false
set_option maxRecDepth 100000 in
set_option maxHeartbeats 8000000 in
theorem own_in (p q : Nat) (A : Option Addr) (m cap : Nat) (w : World) (hp1 : 1 ≤ p) (hp2 : p ≤ 5) (hq1 : 1 ≤ q) (hq2 : q ≤ 3) (hm : m ≤ 60) (hl : MActs w A m) :
    Calls Try.prog 6 #[.int .i64 p, .int .i64 q, .slice A m cap] w fun e w' => e = .returned (.bool true) ∧ Below w.heap.size w w' := by
  obtain ⟨i3, hi, hz0, hz1, hz2⟩ := fr_parts info3
  have HA := Lib.hid (awake_ok w)
  have HNW := Lib.hid (fun W => new_yes W (p := (p : Int)) (q := (q : Int)) (by omega) none 0 0)
  have H0 : Hid ((newMe p q none 0 0).pr.length = p ∧ (newMe p q none 0 0).sl.length = 2 * q + 2 * p) := Lib.hid (by
    unfold newMe
    constructor
    · rw [List.length_replicate]; omega
    · rw [List.length_replicate]; omega)
  have p1 : (1 : Int) ≤ (p : Int) := by omega
  have p2 : (p : Int) ≤ 5 := by omega
  have q1 : (1 : Int) ≤ (q : Int) := by omega
  have q2 : (q : Int) ≤ 3 := by omega
  have m1 : (m : Int) ≤ 60 := by omega
  have HP := Lib.hid hl
  clear hl
  go_enter Try.func6, Try.ntmps6
  go_wp2_with fail
  refine HA.out.mono ?_
  rintro e w1 ⟨rfl, hb⟩
  have HB := Lib.hid hb
  clear hb
  go_wp2_with fail
  refine (HNW.out _).mono ?_
  rintro e w3 ⟨mg, rfl, h3⟩
  have H3 := Lib.hid (h3.base HB.out)
  clear h3
  go_wp2_with fail
  go_loopw [9] (fun i wr => ∃ (k : Nat) (M : Me), k ≤ m ∧ i = .int .i64 k ∧ MO w wr mg M (fun _ => False) ∧ M.pr.length = p ∧ M.sl.length = 2 * q + 2 * p) (fun i _ => m - (intOf i).toNat)
  case atStart => exact ⟨0, _, by omega, rfl, H3.out.less (fun b e => e.elim), H0.out.1, H0.out.2⟩
  case round =>
    obtain ⟨k, M, hk, rfl, hwr, hMp, hMs⟩ := hrel
    by_cases hlt : k < m
    · obtain ⟨ga, oa, ka, pa, qa, xa, ya, za, rfl, hga, hka, hpa, hqa, hxa, hya, hza, hc0, hc1, hc2, hc3, hc4, hc5⟩ := HP.out k hlt
      have d0 := (hwr.bw.cell (p := ⟨ga, oa + k * 6, none⟩) hga).trans hc0
      have d1 := (hwr.bw.cell (p := ⟨ga, oa + k * 6 + 1, none⟩) hga).trans hc1
      have d2 := (hwr.bw.cell (p := ⟨ga, oa + k * 6 + 2, none⟩) hga).trans hc2
      have d3 := (hwr.bw.cell (p := ⟨ga, oa + k * 6 + 3, none⟩) hga).trans hc3
      have d4 := (hwr.bw.cell (p := ⟨ga, oa + k * 6 + 4, none⟩) hga).trans hc4
      have d5 := (hwr.bw.cell (p := ⟨ga, oa + k * 6 + 5, none⟩) hga).trans hc5
      have hgl : ga < wr.heap.size := Nat.lt_of_lt_of_le hga hwr.bw.size
      obtain ⟨tp, htp, htp2⟩ := um pa p hp1 (by omega)
      obtain ⟨tq, htq, htq2⟩ := um qa p hp1 (by omega)
      have HW := Lib.hid hwr
      have HMp := Lib.hid hMp
      have HMs := Lib.hid hMs
      clear hc0 hc1 hc2 hc3 hc4 hc5 hwr H0 H3 hMp hMs
      go_upto_region 14 with fail
      obtain ⟨W0, hW0⟩ : ∃ W0, wr.alloc (.cells #[.int .u8 ka, .int .i64 tp, .int .i64 tq, .int .i64 xa, .int .i64 ya, .int .i64 za] 38) = W0 := ⟨_, rfl⟩
      obtain ⟨bx, hbx⟩ : ∃ bx, wr.heap.size = bx := ⟨_, rfl⟩
      have hbW0 : Below wr.heap.size wr W0 := by rw [← hW0]; exact (Below.refl _ _).alloc (Nat.le_refl _) _
      have hblk : Blk W0 bx [.int .u8 ka, .int .i64 tp, .int .i64 tq, .int .i64 xa, .int .i64 ya, .int .i64 za] := by rw [← hW0, ← hbx]; exact Blk.new _ _ _
      rw [hW0, hbx]
      have HB0 := Lib.hid hbW0
      have HBK := Lib.hid hblk
      have HBX := Lib.hid hbx
      clear hW0 hbx hbW0 hblk d0 d1 d2 d3 d4 d5 htp htq
      obtain ⟨N0, hN0⟩ : ∃ N0, (looks M).length = N0 := ⟨_, rfl⟩
      have hN1 : (N0 : Int) = 4 * (p : Int) + 2 * (q : Int) := by rw [← hN0, looks_len, HMp.out, HMs.out]; omega
      have hN2 : ((N0 : Int) != 4 * (p : Int) + 2 * (q : Int)) = false := by rw [hN1]; simp
      have HN0 := Lib.hid hN0
      have HN1 := Lib.hid hN1
      have HST : Hid (∀ V, Below W0.heap.size W0 V → ∀ j : Nat, Calls Try.prog 25 #[.pointer (some ⟨mg, 0, none⟩), .int .i64 j] V fun e W' => e = .returned (.int .i64 (M.proc j).st) ∧ W' = V) := Lib.hid (fun V hb j => mo_steps ((HW.out.below HB0.out).below hb) j)
      clear hN0 hN1
      go_wp2_with fail
      refine (mo_look (HW.out.below HB0.out)).mono ?_
      rintro e w5 ⟨v0, rfl, hb5, hown5⟩
      rw [HN0.out] at hown5
      obtain ⟨g0, cap0, rfl, hg0, hg0', hc0⟩ := own_row hown5 (by have := HN1.out; omega)
      have HB5 := Lib.hid hb5
      have HG0 := Lib.hid (And.intro hg0 (And.intro hg0' hc0))
      clear hb5 hown5 hg0 hg0' hc0
      go_wp2_with fail
      go_loopw [12, 13] (fun v i wx => ∃ j : Nat, j ≤ p ∧ i = .int .i64 j ∧ Below w5.heap.size w5 wx ∧ wx.ownsRow w5.heap.size 3 1 v j (((M.pr.take j).map (·.st)).map (.int .i64))) (fun _ i _ => p - (intOf i).toNat)
      case atStart => exact ⟨0, by omega, rfl, Below.refl _ _, World.ownsRow_nil _ _ _ _⟩
      case round =>
        obtain ⟨j, hj, rfl, hwx, hown⟩ := hrel
        have HX := Lib.hid hwx
        have HOWN := Lib.hid hown
        clear hwx hown
        by_cases hjp : j < p
        · have hjl : j < M.pr.length := by rw [HMp.out]; exact hjp
          have HSTEP : Hid (((M.pr.take (j + 1)).map (·.st)).map (Value.int .i64) = ((M.pr.take j).map (·.st)).map (Value.int .i64) ++ [.int .i64 (M.proc j).st]) := Lib.hid (by rw [List.take_succ_eq_append_getElem hjl, List.map_append, List.map_append, Me.proc_yes hjl]; rfl)
          have HT := Lib.hid (HST.out wr (below_next HB5.out HX.out) j)
          generalize (M.proc (j : Int)).st = x at *
          clear hjl
          go_wp2_with fail
          refine HT.out.mono ?_
          rintro e v1 ⟨rfl, rfl⟩
          go_wp2_with (at_builtin; refine wpList_append_own _ rfl _ _ 33 rfl w5.heap.size 3 i3 (.int .i64 0) 1 8 Try.underlying33 hi hz0 hz1 hz2 rfl (by decide) _ _ _ rfl (HOWN.out.alloc _) ⟨v1.heap.size, 0, none⟩ 1 1 [.int .i64 x] rfl rfl (cell_one_new _ _ _) (by simp [Value.oneCell']) (by unfold maxLen; omega) (by omega) (by have := HX.out.size; simp; omega) ?_; intro v' w6 hown' hgrow _)
          have HL := HOWN.out.lt
          go_roundw
          case rel =>
            refine ⟨j + 1, by omega, by go_num, ?_, by rw [HSTEP.out]; exact hown'⟩
            exact Below.grown (HX.out.alloc HX.out.size _) hgrow (by have := HX.out.size; simp; omega) (fun q hq => by have := (HL q hq).1; omega)
          case measure => first | (simp [intOf]; done) | (simp [intOf]; omega)
        · obtain rfl : p = j := by omega
          have hfl : M.pr.take p = M.pr := List.take_of_length_le (by rw [HMp.out]; exact Nat.le_refl _)
          rw [hfl] at HOWN
          obtain ⟨g1, cap1, rfl, hg1, hg1', hc1⟩ := own_row HOWN.out (by omega)
          have hS : OwnS wr bx g0 g1 [.int .u8 ka, .int .i64 tp, .int .i64 tq, .int .i64 xa, .int .i64 ya, .int .i64 za] (looks M) (M.pr.map (·.st)) := by
            have h5 := (HBK.out.below HB5.out).below HX.out
            refine ⟨h5, fun j u hj => ?_, ?_, hc1, hg1'⟩
            · exact (HX.out.cell (p := ⟨g0, j, none⟩) HG0.out.2.1).trans (HG0.out.2.2 j u hj)
            · exact Nat.lt_of_lt_of_le HG0.out.2.1 HX.out.size
          have hK : MO w wr mg M (OwnK bx g0 g1) := by
            have s0 := HB0.out.size
            have s5 := HB5.out.size
            have sx := HX.out.size
            have e0 := HBX.out
            have l0 := HG0.out.1
            have l0' := HG0.out.2.1
            have lb := HBK.out.l
            refine HW.out.grow (below_next (below_next HB0.out HB5.out) HX.out) (fun b hb => .inr ?_)
            rcases hb with rfl | rfl | rfl
            · exact ⟨by omega, by omega⟩
            · exact ⟨by omega, by omega⟩
            · exact ⟨by omega, hg1'⟩
          have HS := Lib.hid hS
          have HK := Lib.hid hK
          have htp3 : tp < M.pr.length := by rw [HMp.out]; exact htp2
          clear hS hK hg1 hg1' hc1 hfl HOWN HX HB5 HG0 HBK HB0 HW HST
          have htq3 : tq < M.pr.length := by rw [HMp.out]; exact htq2
          have htq4 : tq < M.sl.length := by rw [HMs.out]; omega
          have a0 := HS.out.bb.c 0 _ rfl
          have a1 := HS.out.bb.c 1 _ rfl
          have a2 := HS.out.bb.c 2 _ rfl
          have a3 := HS.out.bb.c 3 _ rfl
          have a4 := HS.out.bb.c 4 _ rfl
          have al := HS.out.bb.l
          have HTP := Lib.hid htp3
          have HTQ := Lib.hid htq3
          have HTQ4 := Lib.hid htq4
          clear htp3 htq3 htq4
          go_upto_block 4 with fail
          go_cut [14] (fun wh wx => ∃ z : Int, wh = .int .i64 z ∧ OwnR w mg bx g0 g1 [.int .u8 ka, .int .i64 tp, .int .i64 tq, .int .i64 xa, .int .i64 ya, .int .i64 za] M tp z wx)
          case first =>
            as_aux_lemma =>
            have tp4 : (tp : Int) < 5 := by omega
            have tq4 : (tq : Int) < 5 := by omega
            have h8 : ka % 8 = 0 ∨ ka % 8 = 1 ∨ ka % 8 = 2 ∨ ka % 8 = 3 ∨ ka % 8 = 4 ∨ ka % 8 = 5 ∨ ka % 8 = 6 ∨ ka % 8 = 7 := by omega
            have n0i : (N0 : Int) = 4 * (p : Int) + 2 * (q : Int) := HN1.out
            rcases h8 with hc | hc | hc | hc | hc | hc | hc | hc
            · -- 0
              have t0 : (ka % 8 == 0) = true := by rw [hc]; decide
              clear hc n0i
              go_wp2_with fail
              refine (own_ann HK.out HTP.out ⟨ya, 0, 0, 0, 0⟩).mono ?_
              rintro e w6 ⟨rfl, M6, hA6, h6⟩
              have HR := Lib.hid (own_r hA6 h6 HS.out)
              have b1 := HR.out.s.bb.c 1 _ rfl
              have bl := HR.out.s.bb.l
              clear hA6 h6 HS HK
              go_wp2_with fail
              go_meet
              exact ⟨_, rfl, HR.out⟩
            · -- 1
              obtain ⟨r, hr⟩ : ∃ r : Nat, 2 * (tq : Int) = (r : Int) := ⟨2 * tq, by omega⟩
              have r1 : (r : Int) < (N0 : Int) := by omega
              have hr2 : r = 2 * tq := by omega
              have r9 : (r : Int) < 10 := by omega
              have t0 : (ka % 8 == 0) = false := by rw [hc]; decide
              have t1 : (ka % 8 == 1) = true := by rw [hc]; decide
              clear hc n0i
              go_wp2_with fail
              refine (own_annd HK.out HTP.out HTQ.out).mono ?_
              rintro e w6 ⟨rfl, M6, hA6, h6⟩
              have HR := Lib.hid (own_r hA6 h6 HS.out)
              obtain ⟨x, hx⟩ : ∃ x, M.proc (tq : Int) = x := ⟨_, rfl⟩
              have hbW : Below w6.heap.size w6 (w6.alloc (.cells #[.int .i64 x.s, .int .u8 x.k, .int .i64 x.m, .slice none 0 0, .slice none 0 0] 68)) := (Below.refl _ _).alloc (Nat.le_refl _) _
              have HR2 := Lib.hid (HR.out.below hbW)
              have b2 := HR2.out.s.bb.c 2 _ rfl
              have bl := HR2.out.s.bb.l
              have gl := HR2.out.s.l0
              have c0 := HR2.out.s.c0 r x.s (by rw [hr2, looks_s M HTQ.out, hx])
              have x0 := (Blk.new w6 #[.int .i64 x.s, .int .u8 x.k, .int .i64 x.m, .slice none 0 0, .slice none 0 0] 68).c 0 _ rfl
              rw [hx]
              unfold aagg
              clear hA6 h6 HS HK hbW hx hr2 HR
              go_wp2_with fail
              go_region
              go_wp2_with fail
              go_meet
              exact ⟨_, rfl, HR2.out.below (below_drew (Below.refl _ _))⟩
            · -- 2
              have t0 : (ka % 8 == 0) = false := by rw [hc]; decide
              have t1 : (ka % 8 == 1) = false := by rw [hc]; decide
              have t2 : (ka % 8 == 2) = true := by rw [hc]; decide
              clear hc n0i
              go_wp2_with fail
              refine (own_pub HK.out HTP.out ya).mono ?_
              rintro e w6 ⟨rfl, M6, hA6, h6⟩
              have HR := Lib.hid (own_r hA6 h6 HS.out)
              have b1 := HR.out.s.bb.c 1 _ rfl
              have bl := HR.out.s.bb.l
              clear hA6 h6 HS HK
              go_wp2_with fail
              go_meet
              exact ⟨_, rfl, HR.out⟩
            · -- 3
              obtain ⟨r, hr⟩ : ∃ r : Nat, 2 * (tq : Int) = (r : Int) := ⟨2 * tq, by omega⟩
              obtain ⟨r', hr'⟩ : ∃ r' : Nat, (r : Int) + 1 = (r' : Int) := ⟨r + 1, by omega⟩
              have r1 : (r' : Int) < (N0 : Int) := by omega
              have hr2 : r' = 2 * tq + 1 := by omega
              have r9 : (r : Int) < 10 := by omega
              have t0 : (ka % 8 == 0) = false := by rw [hc]; decide
              have t1 : (ka % 8 == 1) = false := by rw [hc]; decide
              have t2 : (ka % 8 == 2) = false := by rw [hc]; decide
              have t3 : (ka % 8 == 3) = true := by rw [hc]; decide
              clear hc n0i
              go_wp2_with fail
              refine (own_publ HK.out HTP.out HTQ.out).mono ?_
              rintro e w6 ⟨rfl, M6, hA6, h6⟩
              have HR := Lib.hid (own_r hA6 h6 HS.out)
              obtain ⟨x, hx⟩ : ∃ x, (M.proc (tq : Int)).pos = x := ⟨_, rfl⟩
              have b2 := HR.out.s.bb.c 2 _ rfl
              have bl := HR.out.s.bb.l
              have gl := HR.out.s.l0
              have c0 := HR.out.s.c0 r' x (by rw [hr2, looks_pos M HTQ.out, hx])
              rw [hx]
              clear hA6 h6 HS HK hx hr2
              go_wp2_with fail
              go_meet
              exact ⟨_, rfl, HR.out⟩
            · -- 4
              obtain ⟨r, hr⟩ : ∃ r : Nat, 2 * (p : Int) + (tq : Int) = (r : Int) := ⟨2 * p + tq, by omega⟩
              have r1 : (r : Int) < (N0 : Int) := by omega
              have hr2 : r = 2 * M.pr.length + tq := by rw [HMp.out]; omega
              have t0 : (ka % 8 == 0) = false := by rw [hc]; decide
              have t1 : (ka % 8 == 1) = false := by rw [hc]; decide
              have t2 : (ka % 8 == 2) = false := by rw [hc]; decide
              have t3 : (ka % 8 == 3) = false := by rw [hc]; decide
              have t4 : (ka % 8 == 4) = true := by rw [hc]; decide
              clear hc n0i
              go_wp2_with fail
              refine (own_slot HK.out HTP.out HTQ4.out).mono ?_
              rintro e w6 ⟨rfl, M6, hA6, h6⟩
              have HR := Lib.hid (own_r hA6 h6 HS.out)
              obtain ⟨x, hx⟩ : ∃ x, M.slot (tq : Int) = x := ⟨_, rfl⟩
              have hbW : Below w6.heap.size w6 (w6.alloc (.cells #[.int .i64 x.i, .int .i64 x.p, .int .i64 x.s, .int .u8 x.k, .int .i64 x.m, .slice none 0 0, .slice none 0 0] 47)) := (Below.refl _ _).alloc (Nat.le_refl _) _
              have HR2 := Lib.hid (HR.out.below hbW)
              have b2 := HR2.out.s.bb.c 2 _ rfl
              have bl := HR2.out.s.bb.l
              have gl := HR2.out.s.l0
              have c0 := HR2.out.s.c0 r x.i (by rw [hr2, looks_i M HTQ4.out, hx])
              have x0 := (Blk.new w6 #[.int .i64 x.i, .int .i64 x.p, .int .i64 x.s, .int .u8 x.k, .int .i64 x.m, .slice none 0 0, .slice none 0 0] 47).c 0 _ rfl
              rw [hx]
              unfold sagg
              clear hA6 h6 HS HK hbW hx hr2 HR
              go_wp2_with fail
              go_region
              go_wp2_with fail
              go_meet
              exact ⟨_, rfl, HR2.out.below (below_drew (Below.refl _ _))⟩
            · -- 5
              obtain ⟨r, hr⟩ : ∃ r : Nat, 2 * (p : Int) + (tq : Int) = (r : Int) := ⟨2 * p + tq, by omega⟩
              have r1 : (r : Int) < (N0 : Int) := by omega
              have hr2 : r = 2 * M.pr.length + tq := by rw [HMp.out]; omega
              have hr3 : (r : Int) = 2 * (M.pr.length : Int) + (tq : Int) := by omega
              have HR3 := Lib.hid hr3
              clear hr3
              have t0 : (ka % 8 == 0) = false := by rw [hc]; decide
              have t1 : (ka % 8 == 1) = false := by rw [hc]; decide
              have t2 : (ka % 8 == 2) = false := by rw [hc]; decide
              have t3 : (ka % 8 == 3) = false := by rw [hc]; decide
              have t4 : (ka % 8 == 4) = false := by rw [hc]; decide
              have t5 : (ka % 8 == 5) = true := by rw [hc]; decide
              clear hc n0i
              go_wp2_with fail
              refine (own_swap HK.out HTP.out HTQ4.out ⟨xa, 0, 0, 0, 0⟩ ⟨ya, 0, 0, 0, 0⟩).mono ?_
              rintro e w6 ⟨rfl, M6, hA6, h6⟩
              have HR := Lib.hid (own_r hA6 h6 HS.out)
              obtain ⟨x, hx⟩ : ∃ x, (M.slot (tq : Int)).i = x := ⟨_, rfl⟩
              have b2 := HR.out.s.bb.c 2 _ rfl
              have b3 := HR.out.s.bb.c 3 _ rfl
              have bl := HR.out.s.bb.l
              have gl := HR.out.s.l0
              have c0 := HR.out.s.c0 r x (by rw [hr2, looks_i M HTQ4.out, hx])
              rw [hx]
              clear hA6 h6 HS HK hx hr2
              go_wp2_with fail
              go_region
              go_wp2_with fail
              go_meet
              exact ⟨_, rfl, HR3.out ▸ HR.out.below (below_drew (Below.refl _ _))⟩
            · -- 6
              have t0 : (ka % 8 == 0) = false := by rw [hc]; decide
              have t1 : (ka % 8 == 1) = false := by rw [hc]; decide
              have t2 : (ka % 8 == 2) = false := by rw [hc]; decide
              have t3 : (ka % 8 == 3) = false := by rw [hc]; decide
              have t4 : (ka % 8 == 4) = false := by rw [hc]; decide
              have t5 : (ka % 8 == 5) = false := by rw [hc]; decide
              have t6 : (ka % 8 == 6) = true := by rw [hc]; decide
              clear hc n0i
              go_wp2_with fail
              refine (own_snap HK.out HTP.out).mono ?_
              rintro e w6 ⟨rfl, M6, hA6, h6⟩
              have HR := Lib.hid (own_r hA6 h6 HS.out)
              unfold nagg
              clear hA6 h6 HS HK
              go_wp2_with fail
              go_meet
              exact ⟨_, rfl, HR.out⟩
            · -- 7
              have t0 : (ka % 8 == 0) = false := by rw [hc]; decide
              have t1 : (ka % 8 == 1) = false := by rw [hc]; decide
              have t2 : (ka % 8 == 2) = false := by rw [hc]; decide
              have t3 : (ka % 8 == 3) = false := by rw [hc]; decide
              have t4 : (ka % 8 == 4) = false := by rw [hc]; decide
              have t5 : (ka % 8 == 5) = false := by rw [hc]; decide
              have t6 : (ka % 8 == 6) = false := by rw [hc]; decide
              clear hc n0i
              go_wp2_with fail
              refine (own_swaps HK.out HTP.out xa (n1 ya)).mono ?_
              rintro e w6 ⟨⟨b, rfl⟩, M6, hA6, h6⟩
              have HR := Lib.hid (own_r hA6 h6 HS.out)
              clear hA6 h6 HS HK
              go_wp2_with fail
              go_meet
              exact ⟨_, rfl, HR.out⟩
          case rest =>
            obtain ⟨z, rfl, M', hA, hM', hS⟩ := hcut
            have HA' := Lib.hid hA
            have HM' := Lib.hid hM'
            have HS' := Lib.hid hS
            have hlen : (looks M').length = N0 := by have hn1 := HN1.out; rw [looks_len, hA.lp, hA.ls, HMp.out, HMs.out]; omega
            have HL' := Lib.hid hlen
            have n0i := HN1.out
            clear hA hM' hS HS HK a0 a1 a2 a3 a4 al hlen
            go_wp2_with fail
            refine (mo_look HM'.out).mono ?_
            rintro e w7 ⟨v2, rfl, hb7, hown7⟩
            rw [HL'.out] at hown7
            obtain ⟨g2, cap2, rfl, hg2, hg2', hc2⟩ := own_row hown7 (by omega)
            have HB7 := Lib.hid hb7
            have HG2 := Lib.hid (And.intro hg2' hc2)
            have HS7 := Lib.hid (HS'.out.below hb7)
            have HM7 := Lib.hid (HM'.out.below hb7)
            clear hb7 hown7 hg2 hg2' hc2 HS' HM'
            go_wp2_with fail
            go_loopw [24] (fun i wx => ∃ j : Nat, j ≤ N0 ∧ i = .int .i64 j ∧ Below w7.heap.size w7 wx) (fun i _ => N0 - (intOf i).toNat)
            case atStart => exact ⟨0, by omega, rfl, Below.refl _ _⟩
            case round =>
              obtain ⟨j, hj, rfl, hwx⟩ := hrel
              by_cases hjn : j < N0
              · obtain ⟨a, ha⟩ : ∃ a, (looks M)[j]? = some a := ⟨_, List.getElem?_eq_getElem (by rw [HN0.out]; exact hjn)⟩
                obtain ⟨b, hb⟩ : ∃ b, (looks M')[j]? = some b := ⟨_, List.getElem?_eq_getElem (by rw [HL'.out]; exact hjn)⟩
                have x0 := (HS7.out.below hwx).c0 j a ha
                have x1 := (hwx.cell (p := ⟨g2, j, none⟩) HG2.out.1).trans (HG2.out.2 j b hb)
                have l0 := (HS7.out.below hwx).l0
                have l2 := Nat.lt_of_lt_of_le HG2.out.1 hwx.size
                have HX := Lib.hid hwx
                have jn : (j : Int) < (N0 : Int) := by omega
                have jn2 : (N0 : Int) < 100 := by omega
                clear hwx
                by_cases hz : (j : Int) = z
                · have z1 : ((j : Int) != z) = false := by rw [hz]; simp
                  clear ha hb hz n0i
                  go_wp2_with fail
                  go_region
                  go_wp2_with fail
                  go_roundw
                  case rel => exact ⟨j + 1, by omega, by go_num, below_drew HX.out⟩
                  case measure => first | (simp [intOf]; done) | (simp [intOf]; omega)
                · have z1 : ((j : Int) != z) = true := by rw [bne_iff_ne]; exact hz
                  have hab := HA'.out.lk j hz
                  rw [ha, hb] at hab
                  obtain rfl : b = a := Option.some.inj hab
                  clear ha hb hz hab n0i
                  go_wp2_with fail
                  go_region
                  go_wp2_with fail
                  go_roundw
                  case rel => exact ⟨j + 1, by omega, by go_num, below_drew HX.out⟩
                  case measure => first | (simp [intOf]; done) | (simp [intOf]; omega)
              · obtain rfl : N0 = j := by omega
                have HX := Lib.hid hwx
                clear hwx
                go_wp2_with fail
                go_loopw [25] (fun i wx => ∃ j : Nat, j ≤ p ∧ i = .int .i64 j ∧ Below w7.heap.size w7 wx) (fun i _ => p - (intOf i).toNat)
                case atStart => exact ⟨0, by omega, rfl, HX.out⟩
                case round =>
                  obtain ⟨j, hj, rfl, hwx⟩ := hrel
                  have HX2 := Lib.hid hwx
                  by_cases hjp : j < p
                  · have hjl : j < M.pr.length := by rw [HMp.out]; exact hjp
                    have hS9 := HS7.out.below hwx
                    have hst := HA'.out.st j hjl
                    have x0 := hS9.c1 j (M.proc j).st (by rw [List.getElem?_map, List.getElem?_eq_getElem hjl, Me.proc_yes hjl]; rfl)
                    have l1 := hS9.l1
                    have b1 := hS9.bb.c 1 _ rfl
                    have bl := hS9.bb.l
                    have HQ := mo_steps (HM7.out.below hwx) (j : Int)
                    rw [hst] at HQ
                    have HQ2 := Lib.hid HQ
                    have jn : (j : Int) < (p : Int) := by omega
                    clear hwx hjl hS9 hst HQ HX
                    generalize (M.proc (j : Int)).st = x at *
                    by_cases htj : j = tp
                    · rw [if_pos htj] at HQ2
                      have t1 : ((j : Int) == (tp : Int)) = true := by rw [htj]; simp
                      have t2 : (j == tp) = true := by rw [htj]; simp
                      clear n0i htj
                      go_wp2_with fail
                      refine HQ2.out.mono ?_
                      rintro e v9 ⟨rfl, rfl⟩
                      go_wp2_with fail
                      go_roundw
                      case rel => exact ⟨j + 1, by omega, by go_num, HX2.out⟩
                      case measure => first | (simp [intOf]; done) | (simp [intOf]; omega)
                    · rw [if_neg htj] at HQ2
                      have t1 : ((j : Int) == (tp : Int)) = false := by rw [beq_eq_false_iff_ne]; omega
                      have t2 : (j == tp) = false := by rw [beq_eq_false_iff_ne]; exact htj
                      clear n0i htj
                      go_wp2_with fail
                      refine HQ2.out.mono ?_
                      rintro e v9 ⟨rfl, rfl⟩
                      go_wp2_with fail
                      go_roundw
                      case rel => exact ⟨j + 1, by omega, by go_num, HX2.out⟩
                      case measure => first | (simp [intOf]; done) | (simp [intOf]; omega)
                  · obtain rfl : p = j := by omega
                    clear hwx HX
                    go_wp2_with fail
                    go_roundw
                    case rel => exact ⟨k + 1, M', by omega, by go_num, (HM7.out.below HX2.out).less (fun b e => e.elim), by rw [HA'.out.lp]; exact HMp.out, by rw [HA'.out.ls]; exact HMs.out⟩
                    case measure => first | (simp [intOf]; done) | (simp [intOf]; omega)
    · obtain rfl : k = m := by omega
      clear H0 H3
      go_wp2_with fail
      go_ret
      exact ⟨rfl, hwr.bw⟩
set_option maxRecDepth 100000 in
theorem own_all (p q : Int) (A : Option Addr) (m cap : Nat) (w : World) {n : Nat} (d : deepOk Try.prog w (n + 4) 22 [.slice A m cap]) :
    Calls Try.prog 6 #[.int .i64 p, .int .i64 q, .slice A m cap] w fun e w' => e = .returned (.bool true) ∧ Below w.heap.size w w' := by
  by_cases h : p < 1 ∨ 5 < p ∨ q < 1 ∨ 3 < q ∨ 60 < m
  · exact own_out p q A m cap w h
  · obtain ⟨p, rfl⟩ := Int.eq_ofNat_of_zero_le (show 0 ≤ p by omega)
    obtain ⟨q, rfl⟩ := Int.eq_ofNat_of_zero_le (show 0 ≤ q by omega)
    exact own_in p q A m cap w (by omega) (by omega) (by omega) (by omega) (by omega) (macts_of d)
#print axioms own_all
end Go.Proofs.Ythllfeogchbihac
