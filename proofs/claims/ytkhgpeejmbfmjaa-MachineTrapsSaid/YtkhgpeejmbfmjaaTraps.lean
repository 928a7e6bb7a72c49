/- Where a call comes to a trap, the globals are those that were handed in, and a result is no array: for every module, method, arguments and globals, no condition. -/
import Derived.Test.YtkhgpeejmbfmjaaPart31
import Derived.Test.YtkhgpeejmbfmjaaPart30
import Derived.Test.YtkhgpeejmbfmjaaRows
import Derived.WalkKit
import Derived.ProofKit
import Derived.OpenShut
import Derived.ShutString
import Derived.ChangeOld
import Derived.Below
import Derived.SizedLaws
import Derived.Deep.Slices
import Derived.Deep.Fields
import Derived.ChangeSame
/- MachineTraps. -/
namespace Go.Proofs.Ytkhgpeejmbfmjaa
open Go.RowKit
set_option linter.unusedSimpArgs false
set_option linter.unusedVariables false
set_option maxRecDepth 100000
section
variable {w0 W : World} {X : Sx} {rb : Nat} {fgs : List Nat} {c : Nat} {s : Mc} {K : Nat → Prop} {fg : Nat}

set_option maxHeartbeats 1000000 in
theorem out3 {Mg : Option Addr} {nmg cmg : Nat} {Mp : Option Addr} {np cp : Nat} {Mm : Option Addr} {nm cm : Nat} {mi : Int} {ps : List Pm} {Aa : Option Addr} {na ca : Nat} {Ab : Option Addr} {ng cb : Nat} {W : World} (i : Int) (hps : PmsAt W Mm nm ps) (hq : greatB nmg np nm ps = false ∨ (greatB nmg np nm ps = true ∧ 20 < na) ∨ (greatB nmg np nm ps = true ∧ na ≤ 20 ∧ 20 < ng)) :
    Calls Try.prog 3 #[.agg #[.slice Mg nmg cmg, .slice Mp np cp, .slice Mm nm cm, .int .i64 mi], .int .i64 i, .slice Aa na ca, .slice Ab ng cb] W fun e w' => e = .returned (.bool true) ∧ Below W.heap.size W w' := by
  rcases hq with hq | ⟨hq, hn⟩ | ⟨hq, hn, hn2⟩
  · have HQ : Hid ((!greatB nmg np nm ps) = true) := Lib.hid (by rw [hq]; rfl)
    clear hq
    obtain ⟨w1, hw1⟩ : ∃ V, W.alloc (.cells #[.slice Mg nmg cmg, .slice Mp np cp, .slice Mm nm cm, .int .i64 mi] 25) = V := ⟨_, rfl⟩
    obtain ⟨b, hb⟩ : ∃ b, W.heap.size = b := ⟨_, rfl⟩
    have B1 : Blk w1 b [.slice Mg nmg cmg, .slice Mp np cp, .slice Mm nm cm, .int .i64 mi] := by rw [← hw1, ← hb]; exact Blk.new _ _ _
    have hB1 : Below W.heap.size W w1 := by rw [← hw1]; exact (Below.refl _ _).alloc (Nat.le_refl _) _
    have HW := Lib.hid (And.intro hw1 hb)
    have HA := fun (V : World) => Lib.hid (awake_ok V)
    have HG := Lib.hid (And.intro B1 (And.intro hB1 (fun (V : World) (h : Below W.heap.size W V) => great_any Mg nmg cmg Mp np cp Mm nm cm mi ps V (hps.below h))))
    clear hw1 hb B1 hB1 hps
    go_enter Try.func3, Try.ntmps3
    go_wp2_with fail
    rw [HW.out.1, HW.out.2]
    refine (HA _).out.mono ?_
    rintro e w2 ⟨rfl, hb2⟩
    have B2 := HG.out.1.below hb2
    have HB2 := Lib.hid (And.intro B2 (below_next HG.out.2.1 hb2))
    have r0 := B2.c 0 _ rfl
    have r1 := B2.c 1 _ rfl
    have r2 := B2.c 2 _ rfl
    have r3 := B2.c 3 _ rfl
    have fr0 := B2.f 0
    have fr1 := B2.f 1
    have fr2 := B2.f 2
    have fr3 := B2.f 3
    have lr := B2.l
    clear B2 hb2
    go_wp2_with fail
    refine (HG.out.2.2 _ HB2.out.2).mono ?_
    rintro e w3 ⟨rfl, hb3⟩
    have HB3 := Lib.hid (And.intro (HB2.out.1.below hb3) (below_next HB2.out.2 hb3))
    clear r0 r1 r2 r3 fr0 fr1 fr2 fr3 lr hb3
    rw [HQ.out]
    go_wp2_with fail
    go_ret
    exact ⟨rfl, HB3.out.2⟩
  · have HQ : Hid ((!greatB nmg np nm ps) = false) := Lib.hid (by rw [hq]; rfl)
    have q1 : decide ((20 : Int) < (na : Int)) = true := by rw [decide_eq_true_iff]; omega
    clear hq hn
    obtain ⟨w1, hw1⟩ : ∃ V, W.alloc (.cells #[.slice Mg nmg cmg, .slice Mp np cp, .slice Mm nm cm, .int .i64 mi] 25) = V := ⟨_, rfl⟩
    obtain ⟨b, hb⟩ : ∃ b, W.heap.size = b := ⟨_, rfl⟩
    have B1 : Blk w1 b [.slice Mg nmg cmg, .slice Mp np cp, .slice Mm nm cm, .int .i64 mi] := by rw [← hw1, ← hb]; exact Blk.new _ _ _
    have hB1 : Below W.heap.size W w1 := by rw [← hw1]; exact (Below.refl _ _).alloc (Nat.le_refl _) _
    have HW := Lib.hid (And.intro hw1 hb)
    have HA := fun (V : World) => Lib.hid (awake_ok V)
    have HG := Lib.hid (And.intro B1 (And.intro hB1 (fun (V : World) (h : Below W.heap.size W V) => great_any Mg nmg cmg Mp np cp Mm nm cm mi ps V (hps.below h))))
    clear hw1 hb B1 hB1 hps
    go_enter Try.func3, Try.ntmps3
    go_wp2_with fail
    rw [HW.out.1, HW.out.2]
    refine (HA _).out.mono ?_
    rintro e w2 ⟨rfl, hb2⟩
    have B2 := HG.out.1.below hb2
    have HB2 := Lib.hid (And.intro B2 (below_next HG.out.2.1 hb2))
    have r0 := B2.c 0 _ rfl
    have r1 := B2.c 1 _ rfl
    have r2 := B2.c 2 _ rfl
    have r3 := B2.c 3 _ rfl
    have fr0 := B2.f 0
    have fr1 := B2.f 1
    have fr2 := B2.f 2
    have fr3 := B2.f 3
    have lr := B2.l
    clear B2 hb2
    go_wp2_with fail
    refine (HG.out.2.2 _ HB2.out.2).mono ?_
    rintro e w3 ⟨rfl, hb3⟩
    have HB3 := Lib.hid (And.intro (HB2.out.1.below hb3) (below_next HB2.out.2 hb3))
    clear r0 r1 r2 r3 fr0 fr1 fr2 fr3 lr hb3
    rw [HQ.out]
    go_wp2_with fail
    go_ret
    exact ⟨rfl, HB3.out.2⟩
  · have HQ : Hid ((!greatB nmg np nm ps) = false) := Lib.hid (by rw [hq]; rfl)
    have q1 : decide ((20 : Int) < (na : Int)) = false := by rw [decide_eq_false_iff_not]; omega
    have q2 : decide ((20 : Int) < (ng : Int)) = true := by rw [decide_eq_true_iff]; omega
    clear hq hn hn2
    obtain ⟨w1, hw1⟩ : ∃ V, W.alloc (.cells #[.slice Mg nmg cmg, .slice Mp np cp, .slice Mm nm cm, .int .i64 mi] 25) = V := ⟨_, rfl⟩
    obtain ⟨b, hb⟩ : ∃ b, W.heap.size = b := ⟨_, rfl⟩
    have B1 : Blk w1 b [.slice Mg nmg cmg, .slice Mp np cp, .slice Mm nm cm, .int .i64 mi] := by rw [← hw1, ← hb]; exact Blk.new _ _ _
    have hB1 : Below W.heap.size W w1 := by rw [← hw1]; exact (Below.refl _ _).alloc (Nat.le_refl _) _
    have HW := Lib.hid (And.intro hw1 hb)
    have HA := fun (V : World) => Lib.hid (awake_ok V)
    have HG := Lib.hid (And.intro B1 (And.intro hB1 (fun (V : World) (h : Below W.heap.size W V) => great_any Mg nmg cmg Mp np cp Mm nm cm mi ps V (hps.below h))))
    clear hw1 hb B1 hB1 hps
    go_enter Try.func3, Try.ntmps3
    go_wp2_with fail
    rw [HW.out.1, HW.out.2]
    refine (HA _).out.mono ?_
    rintro e w2 ⟨rfl, hb2⟩
    have B2 := HG.out.1.below hb2
    have HB2 := Lib.hid (And.intro B2 (below_next HG.out.2.1 hb2))
    have r0 := B2.c 0 _ rfl
    have r1 := B2.c 1 _ rfl
    have r2 := B2.c 2 _ rfl
    have r3 := B2.c 3 _ rfl
    have fr0 := B2.f 0
    have fr1 := B2.f 1
    have fr2 := B2.f 2
    have fr3 := B2.f 3
    have lr := B2.l
    clear B2 hb2
    go_wp2_with fail
    refine (HG.out.2.2 _ HB2.out.2).mono ?_
    rintro e w3 ⟨rfl, hb3⟩
    have HB3 := Lib.hid (And.intro (HB2.out.1.below hb3) (below_next HB2.out.2 hb3))
    clear r0 r1 r2 r3 fr0 fr1 fr2 fr3 lr hb3
    rw [HQ.out]
    go_wp2_with fail
    go_ret
    exact ⟨rfl, HB3.out.2⟩

set_option maxHeartbeats 4000000 in
theorem in3 {Mg : Option Addr} {nmg cmg : Nat} {Mp : Option Addr} {np cp : Nat} {Mm : Option Addr} {nm cm : Nat} {mi : Int} {ps : List Pm} {Aa : Option Addr} {na ca : Nat} {Ab : Option Addr} {ng cb : Nat} {W : World} (i : Int) {m : Md} {vs gs : List V} (hps : PmsAt W Mm nm ps) (hq : greatB nmg np nm ps = true) (hna : na ≤ 20) (hng : ng ≤ 20) (hI : Inp W (.agg #[.slice Mg nmg cmg, .slice Mp np cp, .slice Mm nm cm, .int .i64 mi]) Aa na Ab ng m vs gs) :
    Calls Try.prog 3 #[.agg #[.slice Mg nmg cmg, .slice Mp np cp, .slice Mm nm cm, .int .i64 mi], .int .i64 i, .slice Aa na ca, .slice Ab ng cb] W fun e w' => e = .returned (.bool true) ∧ Below W.heap.size W w' := by
  obtain ⟨r, hr⟩ : ∃ r, runR m ⟨20000, 256, 1024⟩ i vs gs = r := ⟨_, rfl⟩
  have HT : Hid (TrapsOk r gs) := Lib.hid (by rw [← hr]; exact traps_ok _ _ _ _ _)
  have HNG := Lib.hid hng
  have HR := Lib.hid hr
  clear hr
  have HQ : Hid ((!greatB nmg np nm ps) = false) := Lib.hid (by rw [hq]; rfl)
  have q1 : decide ((20 : Int) < (na : Int)) = false := by rw [decide_eq_false_iff_not]; omega
  have q2 : decide ((20 : Int) < (ng : Int)) = false := by rw [decide_eq_false_iff_not]; omega
  have HI := Lib.hid hI
  clear hq hI hna hng
  obtain ⟨w1, hw1⟩ : ∃ V, W.alloc (.cells #[.slice Mg nmg cmg, .slice Mp np cp, .slice Mm nm cm, .int .i64 mi] 25) = V := ⟨_, rfl⟩
  obtain ⟨b, hb⟩ : ∃ b, W.heap.size = b := ⟨_, rfl⟩
  have B1 : Blk w1 b [.slice Mg nmg cmg, .slice Mp np cp, .slice Mm nm cm, .int .i64 mi] := by rw [← hw1, ← hb]; exact Blk.new _ _ _
  have hB1 : Below W.heap.size W w1 := by rw [← hw1]; exact (Below.refl _ _).alloc (Nat.le_refl _) _
  have HW := Lib.hid (And.intro hw1 hb)
  have HA := fun (V : World) => Lib.hid (awake_ok V)
  have HG := Lib.hid (And.intro B1 (And.intro hB1 (fun (V : World) (h : Below W.heap.size W V) => great_any Mg nmg cmg Mp np cp Mm nm cm mi ps V (hps.below h))))
  clear hw1 hb B1 hB1 hps
  go_enter Try.func3, Try.ntmps3
  go_wp2_with fail
  rw [HW.out.1, HW.out.2]
  refine (HA _).out.mono ?_
  rintro e w2 ⟨rfl, hb2⟩
  have B2 := HG.out.1.below hb2
  have HB2 := Lib.hid (And.intro B2 (below_next HG.out.2.1 hb2))
  have r0 := B2.c 0 _ rfl
  have r1 := B2.c 1 _ rfl
  have r2 := B2.c 2 _ rfl
  have r3 := B2.c 3 _ rfl
  have fr0 := B2.f 0
  have fr1 := B2.f 1
  have fr2 := B2.f 2
  have fr3 := B2.f 3
  have lr := B2.l
  clear B2 hb2
  go_wp2_with fail
  refine (HG.out.2.2 _ HB2.out.2).mono ?_
  rintro e w3 ⟨rfl, hb3⟩
  have HB3 := Lib.hid (And.intro (HB2.out.1.below hb3) (below_next HB2.out.2 hb3))
  clear r0 r1 r2 r3 fr0 fr1 fr2 fr3 lr hb3
  rw [HQ.out]
  go_upto_region 5 with fail
  have HM := fun (W : World) => Lib.hid (most_at W)
  have hr := HR.out
  have HRUN : Hid (∀ V, Below w3.heap.size w3 V → Calls Try.prog 8 #[.agg #[.slice Mg nmg cmg, .slice Mp np cp, .slice Mm nm cm, .int .i64 mi], .int .i64 i, .slice Aa na ca, .slice Ab ng cb, .agg #[.int .i64 20000, .int .i64 256, .int .i64 1024]] V fun e V' => RunTo V r e V') := Lib.hid (fun V h => by
    have k := HI.out.calls (ca := ca) (cb := cb) i ⟨20000, 256, 1024⟩ (by decide) V (below_next (HB3.out.2) h)
    rw [hr] at k
    exact k)
  clear hr HR
  go_cut [9, 10, 11, 12] (fun s9 s10 s11 s12 wx => RC w3 r s9 s10 s11 s12 wx)
  case first =>
    as_aux_lemma =>
      refine wp_region_J (by kernel_rfl) (by kernel_rfl) (fun L a V => ∃ A k g1 g2 x0 x1 x2 x3 y0 y1 y2 vc vm v0 v1 v2 v3 va vb vu vv pp0 pp1 pp2 pp3 pp4, a = { tmps := #[.agg #[.slice Mg nmg cmg, .slice Mp np cp, .slice Mm nm cm, .int .i64 mi], .int .i64 i, .slice Aa na ca, .slice Ab ng cb, .pointer (some ⟨b, 0, none⟩), undef, undef, undef, .bool false, vu, va, vb, vv, undef, .bool true, .bool false, .agg #[.slice Mg nmg cmg, .slice Mp np cp, .slice Mm nm cm, .int .i64 mi], .bool false, .bool false, .slice Aa na ca, .int .i64 ↑na, .bool false, .bool false, .bool false, .slice Ab ng cb, .int .i64 ↑ng, .bool false, .bool false, vm, pp0, pp1, pp2, pp3, pp4, vc, v0, v1, v2, v3, undef, undef, undef, undef, undef, undef, undef, undef, undef, undef, undef, undef, undef, undef, undef, undef, undef, undef, undef, undef, undef, undef, undef, undef, undef, undef, undef, undef, undef, undef, undef, undef, undef, undef, undef, undef, undef, undef, undef, undef, undef, undef, undef, undef, undef, undef, undef, undef, undef, undef, undef, undef, undef, undef, undef, undef, undef, undef, undef], defers := [] } ∧ RJ w3 r (L 5) (L 6) (L 7) (L 8) (L 9) (L 10) (L 11) (L 12) (L 14) (L 15) (L 13) (L 16) A k g1 g2 x0 x1 x2 x3 y0 y1 y2 vc vm v0 v1 v2 v3 va vb vu vv V ∧ PA (.agg #[.slice Mg nmg cmg, .slice Mp np cp, .slice Mm nm cm, .int .i64 mi]) (.int .i64 i) (.slice Aa na ca) (.slice Ab ng cb) (.agg #[.int .i64 20000, .int .i64 256, .int .i64 1024]) (L 0) (L 1) (L 2) (L 3) (L 4) pp0 pp1 pp2 pp3 pp4) ?_ ?_ ?_
      · exact ⟨none, 0, 0, 0, undef, undef, undef, undef, undef, undef, undef, undef, undef, undef, undef, undef, undef, undef, undef, undef, undef, undef, undef, undef, undef, undef, rfl, RJ.none _ _ _ _ _ _ _ _ _ _ _ _ _ _ _ _ _ _ _ _ _ _ _, ⟨nofun, nofun, nofun, nofun, nofun⟩⟩
      · intro L a V i o hJ hL ho hdep K' hK
        obtain ⟨A, k, g1, g2, x0, x1, x2, x3, y0, y1, y2, vc, vm, v0, v1, v2, v3, va, vb, vu, vv, pp0, pp1, pp2, pp3, pp4, rfl, h, hp⟩ := hJ
        have HK := Lib.hid hK
        clear hK
        have hlen := (Array.getElem?_eq_some_iff.1 ho).1
        match i, ho, hL, hlen with
        | 0, ho, hL, _ =>
          obtain rfl := Option.some.inj ho
          clear ho
          have Bd := (HB3.out.1).below h.b
          have d0 := Bd.c 0 _ rfl
          have d1 := Bd.c 1 _ rfl
          have d2 := Bd.c 2 _ rfl
          have d3 := Bd.c 3 _ rfl
          clear Bd hdep
          go_simp
          exact HK.out _ _ ⟨_, _, _, _, _, _, _, _, _, _, _, _, _, _, _, _, _, _, _, _, _, _, _, _, _, _, rfl, h, { hp with q0 := fun _ => rfl }⟩
        | 1, ho, hL, _ =>
          obtain rfl := Option.some.inj ho
          clear ho
          clear hdep
          go_simp
          exact HK.out _ _ ⟨_, _, _, _, _, _, _, _, _, _, _, _, _, _, _, _, _, _, _, _, _, _, _, _, _, _, rfl, h, { hp with q1 := fun _ => rfl }⟩
        | 2, ho, hL, _ =>
          obtain rfl := Option.some.inj ho
          clear ho
          clear hdep
          go_simp
          exact HK.out _ _ ⟨_, _, _, _, _, _, _, _, _, _, _, _, _, _, _, _, _, _, _, _, _, _, _, _, _, _, rfl, h, { hp with q2 := fun _ => rfl }⟩
        | 3, ho, hL, _ =>
          obtain rfl := Option.some.inj ho
          clear ho
          clear hdep
          go_simp
          exact HK.out _ _ ⟨_, _, _, _, _, _, _, _, _, _, _, _, _, _, _, _, _, _, _, _, _, _, _, _, _, _, rfl, h, { hp with q3 := fun _ => rfl }⟩
        | 4, ho, hL, _ =>
          obtain rfl := Option.some.inj ho
          clear ho
          clear hdep
          go_simp
          refine (HM _).out.mono ?_
          rintro e V' ⟨rfl, hb⟩
          go_simp
          exact HK.out _ _ ⟨_, _, _, _, _, _, _, _, _, _, _, _, _, _, _, _, _, _, _, _, _, _, _, _, _, _, rfl, (h.pre hb), { hp with q4 := fun _ => rfl }⟩
        | 5, ho, hL, _ =>
          obtain rfl := Option.some.inj ho
          clear ho
          have q0 : L 0 = true := hdep ⟨0, .data⟩ (by simp) rfl
          have q1 : L 1 = true := hdep ⟨1, .data⟩ (by simp) rfl
          have q2 : L 2 = true := hdep ⟨2, .data⟩ (by simp) rfl
          have q3 : L 3 = true := hdep ⟨3, .data⟩ (by simp) rfl
          have q4 : L 4 = true := hdep ⟨4, .data⟩ (by simp) rfl
          clear hdep
          obtain rfl := hp.q0 q0
          obtain rfl := hp.q1 q1
          obtain rfl := hp.q2 q2
          obtain rfl := hp.q3 q3
          obtain rfl := hp.q4 q4
          go_simp
          refine (HRUN.out V h.b).mono ?_
          rintro e V' ⟨A', k', rfl, hb, hgl⟩
          go_simp
          exact HK.out _ _ ⟨_, _, _, _, _, _, _, _, _, _, _, _, _, _, _, _, _, _, _, _, _, _, _, _, _, _, rfl, (h.call' hL hb hgl), hp⟩
        | 6, ho, hL, _ =>
          obtain rfl := Option.some.inj ho
          clear ho
          have q5 : L 5 = true := hdep ⟨5, .data⟩ (by simp) rfl
          clear hdep
          obtain rfl := (h.c q5).1
          go_simp
          exact HK.out _ _ ⟨_, _, _, _, _, _, _, _, _, _, _, _, _, _, _, _, _, _, _, _, _, _, _, _, _, _, rfl, h.mv' q5, hp⟩
        | 7, ho, hL, _ =>
          obtain rfl := Option.some.inj ho
          clear ho
          have q6 : L 6 = true := hdep ⟨6, .data⟩ (by simp) rfl
          clear hdep
          obtain rfl := (h.m q6).2
          unfold rtup
          go_simp
          exact HK.out _ _ ⟨_, _, _, _, _, _, _, _, _, _, _, _, _, _, _, _, _, _, _, _, _, _, _, _, _, _, rfl, (h.part0' q6), hp⟩
        | 8, ho, hL, _ =>
          obtain rfl := Option.some.inj ho
          clear ho
          have q6 : L 6 = true := hdep ⟨6, .data⟩ (by simp) rfl
          clear hdep
          obtain rfl := (h.m q6).2
          unfold rtup
          go_simp
          exact HK.out _ _ ⟨_, _, _, _, _, _, _, _, _, _, _, _, _, _, _, _, _, _, _, _, _, _, _, _, _, _, rfl, h.part1, hp⟩
        | 9, ho, hL, _ =>
          obtain rfl := Option.some.inj ho
          clear ho
          have q6 : L 6 = true := hdep ⟨6, .data⟩ (by simp) rfl
          clear hdep
          obtain rfl := (h.m q6).2
          unfold rtup
          go_simp
          exact HK.out _ _ ⟨_, _, _, _, _, _, _, _, _, _, _, _, _, _, _, _, _, _, _, _, _, _, _, _, _, _, rfl, h.part2, hp⟩
        | 10, ho, hL, _ =>
          obtain rfl := Option.some.inj ho
          clear ho
          have q6 : L 6 = true := hdep ⟨6, .data⟩ (by simp) rfl
          clear hdep
          obtain rfl := (h.m q6).2
          unfold rtup
          go_simp
          exact HK.out _ _ ⟨_, _, _, _, _, _, _, _, _, _, _, _, _, _, _, _, _, _, _, _, _, _, _, _, _, _, rfl, h.part3, hp⟩
        | 11, ho, hL, _ =>
          obtain rfl := Option.some.inj ho
          clear ho
          clear hdep
          go_simp
          exact HK.out _ _ ⟨_, _, _, _, _, _, _, _, _, _, _, _, _, _, _, _, _, _, _, _, _, _, _, _, _, _, rfl, (h.al1' hL _ _ _ _ _), hp⟩
        | 12, ho, hL, _ =>
          obtain rfl := Option.some.inj ho
          clear ho
          clear hdep
          go_simp
          exact HK.out _ _ ⟨_, _, _, _, _, _, _, _, _, _, _, _, _, _, _, _, _, _, _, _, _, _, _, _, _, _, rfl, (h.al2' hL _ _ _ _), hp⟩
        | 13, ho, hL, _ =>
          obtain rfl := Option.some.inj ho
          clear ho
          have q7 : L 7 = true := hdep ⟨7, .data⟩ (by simp) rfl
          clear hdep
          obtain rfl := (h.e0 q7).2
          go_simp
          exact HK.out _ _ ⟨_, _, _, _, _, _, _, _, _, _, _, _, _, _, _, _, _, _, _, _, _, _, _, _, _, _, rfl, (h.as1' q7), hp⟩
        | 14, ho, hL, _ =>
          obtain rfl := Option.some.inj ho
          clear ho
          have q11 : L 11 = true := hdep ⟨11, .data⟩ (by simp) rfl
          have q8 : L 8 = true := hdep ⟨8, .data⟩ (by simp) rfl
          have q5 : L 5 = true := hdep ⟨5, .phase⟩ (by simp) rfl
          clear hdep
          obtain rfl := h.e1 q8
          obtain ⟨ea, -, hb, -⟩ := h.a q11
          subst ea
          have d0 := hb.c 0 _ rfl
          have d1 := hb.c 1 _ rfl
          have d2 := hb.c 2 _ rfl
          have d3 := hb.c 3 _ rfl
          have df := hb.f
          have dl := hb.l
          clear hb
          unfold oagg
          go_simp
          exact HK.out _ _ ⟨_, _, _, _, _, _, _, _, _, _, _, _, _, _, _, _, _, _, _, _, _, _, _, _, _, _, rfl, (h.st1' q5 q11), hp⟩
        | 15, ho, hL, _ =>
          obtain rfl := Option.some.inj ho
          clear ho
          have q12 : L 12 = true := hdep ⟨12, .data⟩ (by simp) rfl
          have q9 : L 9 = true := hdep ⟨9, .data⟩ (by simp) rfl
          have q5 : L 5 = true := hdep ⟨5, .phase⟩ (by simp) rfl
          clear hdep
          obtain rfl := h.e2 q9
          obtain ⟨eb, -, hb⟩ := h.bb q12
          subst eb
          have d0 := hb.c 0 _ rfl
          have d1 := hb.c 1 _ rfl
          have d2 := hb.c 2 _ rfl
          have df := hb.f
          have dl := hb.l
          clear hb
          unfold cagg
          go_simp
          exact HK.out _ _ ⟨_, _, _, _, _, _, _, _, _, _, _, _, _, _, _, _, _, _, _, _, _, _, _, _, _, _, rfl, (h.st2' q5 q12), hp⟩
        | 16, ho, hL, _ =>
          obtain rfl := Option.some.inj ho
          clear ho
          have q10 : L 10 = true := hdep ⟨10, .data⟩ (by simp) rfl
          clear hdep
          obtain rfl := h.e3 q10
          go_simp
          exact HK.out _ _ ⟨_, _, _, _, _, _, _, _, _, _, _, _, _, _, _, _, _, _, _, _, _, _, _, _, _, _, rfl, h.as2, hp⟩
        | _ + 17, ho, hL, hlen => exact absurd hlen (by simp)
      · intro L a V hJ hall
        obtain ⟨A, k, g1, g2, x0, x1, x2, x3, y0, y1, y2, vc, vm, v0, v1, v2, v3, va, vb, vu, vv, pp0, pp1, pp2, pp3, pp4, rfl, h, hp⟩ := hJ
        have q : ∀ i, i < 17 → L i = true := fun i hi => hall i hi
        have FIN := h.fin (q 5 (by decide)) (q 11 (by decide)) (q 12 (by decide)) (q 14 (by decide)) (q 15 (by decide)) (q 13 (by decide)) (q 16 (by decide))
        clear h hp hall q
        dsimp only
        go_wp2_with fail
        go_meet
        exact FIN
  case rest =>
    as_aux_lemma =>
      obtain ⟨R, ⟨o0, o1, o2, o3⟩, ⟨u0, u1, u2⟩, ee⟩ := r
      obtain ⟨A, k, g1, g2, rfl, rfl, rfl, rfl, hb, hg, b1, b2, -, -, -, -⟩ := RC.open hcut
      obtain ⟨t1, t2, t3⟩ := HT.out.open
      have HB4 := Lib.hid (And.intro b1 (And.intro hg (below_next HB3.out.2 hb)))
      have r0 := b1.c 0 _ rfl
      have r1 := b1.c 1 _ rfl
      have r2 := b1.c 2 _ rfl
      have r3 := b1.c 3 _ rfl
      have fr0 := b1.f 0
      have fr1 := b1.f 1
      have fr2 := b1.f 2
      have fr3 := b1.f 3
      have lr := b1.l
      have s0 := b2.c 0 _ rfl
      have s1 := b2.c 1 _ rfl
      have s2 := b2.c 2 _ rfl
      have fs0 := b2.f 0
      have fs1 := b2.f 1
      have fs2 := b2.f 2
      have ls := b2.l
      have HT3 := Lib.hid t3
      clear b1 b2 hg hb hcut t3 HRUN HM HA HG HT
      by_cases h0 : ee = 0
      · subst h0
        by_cases h1 : o0 = 0
        · subst h1
          obtain ⟨hmap, hk⟩ := HT3.out rfl rfl
          have hlen : R.length = ng := by
            have e := congrArg List.length hmap
            rw [List.length_map, List.length_map, HI.out.vg.1] at e
            exact e
          have hgv := HB4.out.2.1.vs
          rw [hlen] at hgv ⊢
          have HGV := Lib.hid hgv
          have HVG := Lib.hid (HI.out.vg.below HB4.out.2.2)
          have HMAP := Lib.hid hmap
          have HK := Lib.hid hk
          have HLEN := Lib.hid hlen
          have hnn : ((ng : Int) != (ng : Int)) = false := by simp
          clear hgv hmap hlen hk t1 t2
          have hng2 : ng ≤ 20 := HNG.out
          go_wp2_with fail
          go_loopw [13] (fun iv wr => ∃ k q : Nat, k ≤ ng ∧ iv = .int .i64 k ∧ wr = wc.drewN q) (fun iv _ => ng - (intOf iv).toNat)
          case atStart => exact ⟨0, 0, by omega, rfl, rfl⟩
          case round =>
            obtain ⟨k', q, hk, rfl, rfl⟩ := hrel
            by_cases hlt : k' < ng
            · have hku : k' < R.length := by rw [HGV.out.1]; exact hlt
              have hkv : k' < gs.length := by rw [HVG.out.1]; exact hlt
              have hkk : R[k'].1 = gs[k'].1 := by
                have e := congrArg (fun l => l[k']?) HMAP.out
                simp only [List.getElem?_map, List.getElem?_eq_getElem hku, List.getElem?_eq_getElem hkv, Option.map_some] at e
                exact Option.some.inj e
              obtain ⟨b', off, rfl, hbl, -, c0, -, -⟩ := HGV.out.2 k' hku
              obtain ⟨b'', off', rfl, hbl', -, d0, -, -⟩ := HVG.out.2 k' hkv
              rw [hkk] at c0
              generalize gs[k'].1 = x at *
              have hxx : (x != x) = false := by simp
              have HLT := Lib.hid hlt
              clear hku hkv hkk
              go_wp2_with fail
              go_quiet (fail)
              go_wp2_with fail
              go_roundw
              case rel => exact ⟨k' + 1, _, by have := HLT.out; omega, by go_num, by first | rfl | rw [World.drewN_drewN]⟩
              case measure => have := HLT.out; first | (simp [intOf]; done) | (simp [intOf]; omega)
            · rcases HK.out with hk1 | hk1
              · subst hk1
                go_wp2_with fail
                go_ret
                exact ⟨rfl, below_next HB4.out.2.2 ((Touch.drewN (Touch.refl (fun _ => False) wc) _).below (Nat.le_refl _) (fun j hj => hj.elim))⟩
              · subst hk1
                go_wp2_with fail
                go_ret
                exact ⟨rfl, below_next HB4.out.2.2 ((Touch.drewN (Touch.refl (fun _ => False) wc) _).below (Nat.le_refl _) (fun j hj => hj.elim))⟩
        · obtain ⟨rfl, rfl, rfl, rfl⟩ := t2 rfl h1
          have n1 : (o0 != 0) = true := by simp [h1]
          have hlr : R.length ≤ 3000 := by have := HI.out.vg.1; have := HNG.out; omega
          have HS : Hid (Calls Try.prog 10 #[.slice A R.length k, .slice Ab ng cb] wc fun e w' => e = .returned (.bool true) ∧ Below wc.heap.size wc w') := Lib.hid ((same_any A Ab R.length k ng cb R R wc HB4.out.2.1.vs (HI.out.vg.below HB4.out.2.2) hlr (by have := HNG.out; omega)).mono (fun e w' h => ⟨by rw [h.1, decide_eq_true rfl], h.2⟩))
          clear t1 t2 hlr
          go_wp2_with fail
          refine HS.out.mono ?_
          rintro e w5 ⟨rfl, hb5⟩
          have B5 := HB4.out.1.below hb5
          have x0 := B5.c 0 _ rfl
          have x1 := B5.c 1 _ rfl
          have x2 := B5.c 2 _ rfl
          have x3 := B5.c 3 _ rfl
          have fx0 := B5.f 0
          have fx1 := B5.f 1
          have fx2 := B5.f 2
          have fx3 := B5.f 3
          have lx := B5.l
          have HB5 := Lib.hid (below_next HB4.out.2.2 hb5)
          have hn := fun W => val_eql 0 0 0 0 0 0 W true rfl
          clear hb5 B5 r0 r1 r2 r3 fr0 fr1 fr2 fr3 lr s0 s1 s2 fs0 fs1 fs2 ls
          go_wp2_with fail
          go_ret
          exact ⟨rfl, HB5.out⟩
      · obtain ⟨rfl, rfl, rfl, rfl, rfl, rfl, rfl, rfl⟩ := t1 h0
        have n1 : (ee != 0) = true := by simp [h0]
        have e1 := fun W => out_eql 0 0 0 0 0 0 0 0 W true rfl
        have e2 := fun W => cert_eql 0 0 0 0 0 0 W true rfl
        clear t1 t2
        go_wp2_with fail
        go_ret
        exact ⟨rfl, HB4.out.2.2⟩

theorem traps_walk (cs : Array Value) (i : Int) (Aa : Option Addr) (na ca : Nat) (Ab : Option Addr) (ng cb : Nat) (W : World) (hcs : cs.size = Try.prog.cellsOf 25) (hd : deepOk Try.prog W 8 25 cs.toList) (wi : (Lit.int .i64 i).wf = true) (ha : deepOk Try.prog W 8 22 [.slice Aa na ca]) (hb : deepOk Try.prog W 8 22 [.slice Ab ng cb]) :
    Calls Try.prog 3 #[.agg cs, .int .i64 i, .slice Aa na ca, .slice Ab ng cb] W fun e w' => e = .returned (.bool true) ∧ Below W.heap.size W w' := by
  obtain ⟨Mg, nmg, cmg, Mp, np, cp, Mm, nm, cm, mi, ps, rfl, hps, hm⟩ := mod_open hcs hd
  rcases Bool.eq_false_or_eq_true (greatB nmg np nm ps) with hq | hq
  · by_cases hna : na ≤ 20
    · by_cases hng : ng ≤ 20
      · obtain ⟨m, hm⟩ := hm hq
        obtain ⟨vs, hv⟩ := vals_arg ha
        obtain ⟨gs, hg⟩ := vals_arg hb
        exact in3 i hps hq hna hng (hm _ _ _ _ _ _ hv hg hna hng)
      · exact out3 i hps (.inr (.inr ⟨hq, hna, by omega⟩))
    · exact out3 i hps (.inr (.inl ⟨hq, by omega⟩))
  · exact out3 i hps (.inl hq)
end
#print axioms out3
#print axioms in3
#print axioms traps_walk
end Go.Proofs.Ytkhgpeejmbfmjaa
/- Where a call comes to a trap, the globals are those that were handed in, and a result is no array: for every module, method, arguments and globals, no condition. -/
namespace Go.Proofs.Ytkhgpeejmbfmjaa.machineTraps
open Go.ChangeShapes Go.WideShapes Go.ChangeAt Go.RowKit Go.Deep
open Go.ChangeMaps (open_string shut_string)
set_option linter.unusedVariables false

theorem own : ownKnob Try.prog.godebug = none := by kernel_rfl
set_option maxRecDepth 100000 in
theorem lifted (os : Os) (started : os.Started) (H : Type) (enc : TypeId × Value → H) :
    ReturnsInHanded {} Try.checked os 3 .any (Rows.machineTrapsSpec.pre6 enc Try.prog Try.f3 Rows.machineTrapsRow.domain false) (Rows.machineTrapsSpec.post enc Try.prog Try.f3 false true false false) := by
  refine returnsInHanded_of_change_sized (C := Try.checked) own started (by kernel_rfl) Try.func3
    (ChangeSpec.witness6 (enc := enc) (C := Try.checked) false ⟨#[], #[.agg #[.slice none 0 0, .slice none 0 0, .slice none 0 0, .int .i64 0], .int .i64 0, .slice none 0 0, .slice none 0 0], []⟩ 8 (by kernel_rfl) (by kernel_rfl) (by kernel_rfl) (by kernel_rfl)) ?_
  intro W base args ds gs before hval0 hW hcnd hsz0 _
  have hsz : (DataW.weightsEach Try.prog (Try.f3.params.toList ++ Rows.machineTrapsSpec.plain.varTypes Try.prog) (ds ++ gs)).all (· ≤ reachBytes) = true := hsz0
  have hval : ∀ (j : Nat) t v, Try.f3.params[j]? = some t → args[j]? = some v → Value.okWide Try.prog W .any base t v := hval0
  have hW' := hW
  obtain ⟨p, q, hA0, hV, rfl, hfz, hnd⟩ := hW
  have hA : DataW.TrodAll enc Try.prog W 0 (fun _ => true) true Try.f3.params.toList args.toList ds p := hA0
  rw [Try.params3] at hA hval hsz
  obtain ⟨v0, vs0, d0, ds0, p0, q0, hargs, rfl, rfl, h0, r0⟩ := trodAll_cons hA
  obtain ⟨v1, vs1, d1, ds1, p1, q1, rfl, rfl, rfl, h1, r1⟩ := trodAll_cons r0
  obtain ⟨v2, vs2, d2, ds2, p2, q2, rfl, rfl, rfl, h2, r2⟩ := trodAll_cons r1
  obtain ⟨v3, vs3, d3, ds3, p3, q3, rfl, rfl, rfl, h3, r3⟩ := trodAll_cons r2
  obtain ⟨rfl, rfl, rfl⟩ := trodAll_nil r3
  obtain rfl : args = #[v0, v1, v2, v3] := by cases args; simp_all
  obtain ⟨rfl, rfl⟩ := trodVars_none hV
  have h0k := h0
  have hlt0 : ∀ x ∈ p0, x.block < W.heap.size := fun x hx => by simpa using hW'.lt x (by simp [hx])
  obtain ⟨c0, rfl, w0, u0⟩ := open_deep_agg Try.underlying25 (hval 0 25 v0 rfl rfl) h0 hlt0
  obtain ⟨a1, rfl, rfl, rfl, w1⟩ := open_int Try.underlying3 (hval 1 3 v1 rfl rfl) h1
  have h2k := h2
  have hlt2 : ∀ x ∈ p2, x.block < W.heap.size := fun x hx => by simpa using hW'.lt x (by simp [hx])
  obtain ⟨A2, n2, cap2, rfl, u2⟩ := open_deep_slice Try.underlying22 (hval 2 22 v2 rfl rfl) h2 hlt2
  have h3k := h3
  have hlt3 : ∀ x ∈ p3, x.block < W.heap.size := fun x hx => by simpa using hW'.lt x (by simp [hx])
  obtain ⟨A3, n3, cap3, rfl, u3⟩ := open_deep_slice Try.underlying22 (hval 3 22 v3 rfl rfl) h3 hlt3
  clear hA0 hval0 hsz0 hsz
  refine (traps_walk c0 a1 A2 n2 cap2 A3 n3 cap3 W w0 u0 w1 u2 u3).mono fun e W' ⟨he, bel⟩ => ?_
  subst he
  exact ⟨_, rfl, _, _, _, [], _, [], hW', trodAll_mk1 (shut_bool Try.underlying4 _), (trodAll_cons_mk (Below.trod (P := Try.prog) (by kernel_rfl) (by kernel_rfl) (of_decide_eq_true (by kernel_rfl)) h0k bel hlt0) (trodAll_cons_mk (shut_int Try.underlying3 w1) (trodAll_cons_mk (Below.trod (P := Try.prog) (by kernel_rfl) (by kernel_rfl) (of_decide_eq_true (by kernel_rfl)) h2k bel hlt2) (trodAll_cons_mk (Below.trod (P := Try.prog) (by kernel_rfl) (by kernel_rfl) (of_decide_eq_true (by kernel_rfl)) h3k bel hlt3) trodAll_mk0)))), rfl, bel.frame _, fun h => by cases h⟩
theorem over : Rows.machineTrapsRow.holds Try.pinned (OpenSpec.ofChange Rows.machineTrapsSpec) :=
  OpenClaim.holds_of_wide 3 Try.f3 rfl rfl rfl rfl rfl rfl rfl ⟨rfl, rfl, rfl, rfl, rfl⟩ rfl rfl rfl rfl rfl (by kernel_rfl) Try.func3 (by kernel_rfl)
    (of_decide_eq_true (by kernel_rfl)) (by unfold Func.isWrapper; first | (rw [if_pos (by decide +kernel)]; kernel_rfl) | (rw [if_neg (by decide +kernel)]; exact ⟨rfl, rfl⟩))
    (fun os started H enc _ => lifted os started H enc)
theorem proved : Rows.MachineTrapsSaid := over
end Go.Proofs.Ytkhgpeejmbfmjaa.machineTraps
namespace Go.Proofs.Ytkhgpeejmbfmjaa
/-- The row, under a short name, for the claim. -/
theorem machineTraps_holds : Rows.MachineTrapsSaid := machineTraps.proved
#print axioms machineTraps_holds
end Go.Proofs.Ytkhgpeejmbfmjaa
