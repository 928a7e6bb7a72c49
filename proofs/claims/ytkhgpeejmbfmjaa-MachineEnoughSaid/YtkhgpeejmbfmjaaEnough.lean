/- With limits that are just what a call took it comes to the same, with less fuel to the error that says so: for every module, method, arguments, globals and number, no condition. -/
import Derived.Test.YtkhgpeejmbfmjaaPart31
import Derived.Test.YtkhgpeejmbfmjaaPart30
import Derived.Test.YtkhgpeejmbfmjaaRows
import Derived.WalkKit
import Derived.ProofKit
import Derived.OpenShut
import Derived.ShutString
import Derived.ChangeOld
import Derived.Below
import Derived.SizedLaws
import Derived.Deep.Slices
import Derived.Deep.Fields
import Derived.ChangeSame
/- MachineEnough. -/
namespace Go.Proofs.Ytkhgpeejmbfmjaa
open Go.RowKit
set_option linter.unusedSimpArgs false
set_option linter.unusedVariables false
set_option maxRecDepth 100000
section
variable {w0 W : World} {X : Sx} {rb : Nat} {fgs : List Nat} {c : Nat} {s : Mc} {K : Nat → Prop} {fg : Nat}

set_option maxHeartbeats 1000000 in
theorem out5 {Mg : Option Addr} {nmg cmg : Nat} {Mp : Option Addr} {np cp : Nat} {Mm : Option Addr} {nm cm : Nat} {mi : Int} {ps : List Pm} {Aa : Option Addr} {na ca : Nat} {Ab : Option Addr} {ng cb : Nat} {W : World} (i : Int) (less : Int) (hps : PmsAt W Mm nm ps) (hq : greatB nmg np nm ps = false ∨ (greatB nmg np nm ps = true ∧ 20 < na) ∨ (greatB nmg np nm ps = true ∧ na ≤ 20 ∧ 20 < ng)) :
    Calls Try.prog 5 #[.agg #[.slice Mg nmg cmg, .slice Mp np cp, .slice Mm nm cm, .int .i64 mi], .int .i64 i, .slice Aa na ca, .slice Ab ng cb, .int .i64 less] W fun e w' => e = .returned (.bool true) ∧ Below W.heap.size W w' := by
  rcases hq with hq | ⟨hq, hn⟩ | ⟨hq, hn, hn2⟩
  · have HQ : Hid ((!greatB nmg np nm ps) = true) := Lib.hid (by rw [hq]; rfl)
    clear hq
    obtain ⟨w1, hw1⟩ : ∃ V, W.alloc (.cells #[.slice Mg nmg cmg, .slice Mp np cp, .slice Mm nm cm, .int .i64 mi] 25) = V := ⟨_, rfl⟩
    obtain ⟨b, hb⟩ : ∃ b, W.heap.size = b := ⟨_, rfl⟩
    have B1 : Blk w1 b [.slice Mg nmg cmg, .slice Mp np cp, .slice Mm nm cm, .int .i64 mi] := by rw [← hw1, ← hb]; exact Blk.new _ _ _
    have hB1 : Below W.heap.size W w1 := by rw [← hw1]; exact (Below.refl _ _).alloc (Nat.le_refl _) _
    have HW := Lib.hid (And.intro hw1 hb)
    have HA := fun (V : World) => Lib.hid (awake_ok V)
    have HG := Lib.hid (And.intro B1 (And.intro hB1 (fun (V : World) (h : Below W.heap.size W V) => great_any Mg nmg cmg Mp np cp Mm nm cm mi ps V (hps.below h))))
    clear hw1 hb B1 hB1 hps
    go_enter Try.func5, Try.ntmps5
    go_wp2_with fail
    rw [HW.out.1, HW.out.2]
    refine (HA _).out.mono ?_
    rintro e w2 ⟨rfl, hb2⟩
    have B2 := HG.out.1.below hb2
    have HB2 := Lib.hid (And.intro B2 (below_next HG.out.2.1 hb2))
    have r0 := B2.c 0 _ rfl
    have r1 := B2.c 1 _ rfl
    have r2 := B2.c 2 _ rfl
    have r3 := B2.c 3 _ rfl
    have fr0 := B2.f 0
    have fr1 := B2.f 1
    have fr2 := B2.f 2
    have fr3 := B2.f 3
    have lr := B2.l
    clear B2 hb2
    go_wp2_with fail
    refine (HG.out.2.2 _ HB2.out.2).mono ?_
    rintro e w3 ⟨rfl, hb3⟩
    have HB3 := Lib.hid (And.intro (HB2.out.1.below hb3) (below_next HB2.out.2 hb3))
    clear r0 r1 r2 r3 fr0 fr1 fr2 fr3 lr hb3
    rw [HQ.out]
    go_wp2_with fail
    go_ret
    exact ⟨rfl, HB3.out.2⟩
  · have HQ : Hid ((!greatB nmg np nm ps) = false) := Lib.hid (by rw [hq]; rfl)
    have q1 : decide ((20 : Int) < (na : Int)) = true := by rw [decide_eq_true_iff]; omega
    clear hq hn
    obtain ⟨w1, hw1⟩ : ∃ V, W.alloc (.cells #[.slice Mg nmg cmg, .slice Mp np cp, .slice Mm nm cm, .int .i64 mi] 25) = V := ⟨_, rfl⟩
    obtain ⟨b, hb⟩ : ∃ b, W.heap.size = b := ⟨_, rfl⟩
    have B1 : Blk w1 b [.slice Mg nmg cmg, .slice Mp np cp, .slice Mm nm cm, .int .i64 mi] := by rw [← hw1, ← hb]; exact Blk.new _ _ _
    have hB1 : Below W.heap.size W w1 := by rw [← hw1]; exact (Below.refl _ _).alloc (Nat.le_refl _) _
    have HW := Lib.hid (And.intro hw1 hb)
    have HA := fun (V : World) => Lib.hid (awake_ok V)
    have HG := Lib.hid (And.intro B1 (And.intro hB1 (fun (V : World) (h : Below W.heap.size W V) => great_any Mg nmg cmg Mp np cp Mm nm cm mi ps V (hps.below h))))
    clear hw1 hb B1 hB1 hps
    go_enter Try.func5, Try.ntmps5
    go_wp2_with fail
    rw [HW.out.1, HW.out.2]
    refine (HA _).out.mono ?_
    rintro e w2 ⟨rfl, hb2⟩
    have B2 := HG.out.1.below hb2
    have HB2 := Lib.hid (And.intro B2 (below_next HG.out.2.1 hb2))
    have r0 := B2.c 0 _ rfl
    have r1 := B2.c 1 _ rfl
    have r2 := B2.c 2 _ rfl
    have r3 := B2.c 3 _ rfl
    have fr0 := B2.f 0
    have fr1 := B2.f 1
    have fr2 := B2.f 2
    have fr3 := B2.f 3
    have lr := B2.l
    clear B2 hb2
    go_wp2_with fail
    refine (HG.out.2.2 _ HB2.out.2).mono ?_
    rintro e w3 ⟨rfl, hb3⟩
    have HB3 := Lib.hid (And.intro (HB2.out.1.below hb3) (below_next HB2.out.2 hb3))
    clear r0 r1 r2 r3 fr0 fr1 fr2 fr3 lr hb3
    rw [HQ.out]
    go_wp2_with fail
    go_ret
    exact ⟨rfl, HB3.out.2⟩
  · have HQ : Hid ((!greatB nmg np nm ps) = false) := Lib.hid (by rw [hq]; rfl)
    have q1 : decide ((20 : Int) < (na : Int)) = false := by rw [decide_eq_false_iff_not]; omega
    have q2 : decide ((20 : Int) < (ng : Int)) = true := by rw [decide_eq_true_iff]; omega
    clear hq hn hn2
    obtain ⟨w1, hw1⟩ : ∃ V, W.alloc (.cells #[.slice Mg nmg cmg, .slice Mp np cp, .slice Mm nm cm, .int .i64 mi] 25) = V := ⟨_, rfl⟩
    obtain ⟨b, hb⟩ : ∃ b, W.heap.size = b := ⟨_, rfl⟩
    have B1 : Blk w1 b [.slice Mg nmg cmg, .slice Mp np cp, .slice Mm nm cm, .int .i64 mi] := by rw [← hw1, ← hb]; exact Blk.new _ _ _
    have hB1 : Below W.heap.size W w1 := by rw [← hw1]; exact (Below.refl _ _).alloc (Nat.le_refl _) _
    have HW := Lib.hid (And.intro hw1 hb)
    have HA := fun (V : World) => Lib.hid (awake_ok V)
    have HG := Lib.hid (And.intro B1 (And.intro hB1 (fun (V : World) (h : Below W.heap.size W V) => great_any Mg nmg cmg Mp np cp Mm nm cm mi ps V (hps.below h))))
    clear hw1 hb B1 hB1 hps
    go_enter Try.func5, Try.ntmps5
    go_wp2_with fail
    rw [HW.out.1, HW.out.2]
    refine (HA _).out.mono ?_
    rintro e w2 ⟨rfl, hb2⟩
    have B2 := HG.out.1.below hb2
    have HB2 := Lib.hid (And.intro B2 (below_next HG.out.2.1 hb2))
    have r0 := B2.c 0 _ rfl
    have r1 := B2.c 1 _ rfl
    have r2 := B2.c 2 _ rfl
    have r3 := B2.c 3 _ rfl
    have fr0 := B2.f 0
    have fr1 := B2.f 1
    have fr2 := B2.f 2
    have fr3 := B2.f 3
    have lr := B2.l
    clear B2 hb2
    go_wp2_with fail
    refine (HG.out.2.2 _ HB2.out.2).mono ?_
    rintro e w3 ⟨rfl, hb3⟩
    have HB3 := Lib.hid (And.intro (HB2.out.1.below hb3) (below_next HB2.out.2 hb3))
    clear r0 r1 r2 r3 fr0 fr1 fr2 fr3 lr hb3
    rw [HQ.out]
    go_wp2_with fail
    go_ret
    exact ⟨rfl, HB3.out.2⟩

theorem TrapsOk.len5 {r : Rr} {gs : List V} (h : TrapsOk r gs) : r.1.length ≤ gs.length := by
  by_cases h0 : r.2.2.2 = 0
  · by_cases h1 : r.2.1.1 = 0
    · have e := congrArg List.length (h.fine h0 h1).1
      rw [List.length_map, List.length_map] at e
      omega
    · rw [(h.trap h0 h1).1]
      exact Nat.le_refl _
  · rw [(h.bad h0).1]
    exact Nat.zero_le _
theorem enough_ok {m : Md} {i : Int} {vs gs : List V} {R : List V} {o0 o1 o2 o3 u0 u1 u2 : Int} (hr : runR m ⟨20000, 256, 1024⟩ i vs gs = (R, (o0, o1, o2, o3), (u0, u1, u2), 0)) : (1 ≤ u0 ∧ u0 ≤ 20000) ∧ runR m ⟨u0, u1, u2⟩ i vs gs = (R, (o0, o1, o2, o3), (u0, u1, u2), 0) ∧ ∀ f, 0 ≤ f → f < u0 → (runR m ⟨f, u1, u2⟩ i vs gs).2.2.2 = 170 := by
  have T := took_ok (m := m) (l := ⟨20000, 256, 1024⟩) (i := i) (vs := vs) (gs := gs) (by rw [hr]) (by decide)
  rw [hr] at T
  dsimp only at T
  obtain ⟨h1, h2, h3, -, h5, h6⟩ := T
  have hl : ∀ f, 0 ≤ f → f ≤ 20000 → limB ⟨f, u1, u2⟩ = true := by
    intro f hf0 hf1
    unfold limB inB
    simp only [Bool.and_eq_true, decide_eq_true_eq]
    exact ⟨⟨hf0, by omega⟩, h2, h3⟩
  exact ⟨h1, h5 _ (hl _ (by omega) h1.2) (Int.le_refl _) (Int.le_refl _) (Int.le_refl _), fun f hf0 hf1 => h6 _ (hl f hf0 (by omega)) hf1 (Int.le_refl _) (Int.le_refl _)⟩
theorem rem_ok (less u0 : Int) (h : 1 ≤ u0 ∧ u0 ≤ 20000) : ∃ LL f, IntKind.u64.wrap less = LL ∧ IntKind.u64.wrap u0 = u0 ∧ LL.tmod u0 = f ∧ wrap64 f = f ∧ 0 ≤ f ∧ f < u0 := by
  have h0 : 0 ≤ IntKind.u64.wrap less := by
    unfold IntKind.wrap
    simp [IntKind.bits, IntKind.signed]
    omega
  have h1 := Int.tmod_nonneg u0 h0
  have h2 := Int.tmod_lt_of_pos (IntKind.u64.wrap less) (show 0 < u0 by omega)
  refine ⟨_, _, rfl, ?_, rfl, ?_, h1, h2⟩
  · unfold IntKind.wrap
    simp [IntKind.bits, IntKind.signed]
    omega
  · unfold wrap64
    omega
set_option maxHeartbeats 4000000 in
theorem in5 {Mg : Option Addr} {nmg cmg : Nat} {Mp : Option Addr} {np cp : Nat} {Mm : Option Addr} {nm cm : Nat} {mi : Int} {ps : List Pm} {Aa : Option Addr} {na ca : Nat} {Ab : Option Addr} {ng cb : Nat} {W : World} (i less : Int) (hless : I64 less) {m : Md} {vs gs : List V} (hps : PmsAt W Mm nm ps) (hq : greatB nmg np nm ps = true) (hna : na ≤ 20) (hng : ng ≤ 20) (hI : Inp W (.agg #[.slice Mg nmg cmg, .slice Mp np cp, .slice Mm nm cm, .int .i64 mi]) Aa na Ab ng m vs gs) :
    Calls Try.prog 5 #[.agg #[.slice Mg nmg cmg, .slice Mp np cp, .slice Mm nm cm, .int .i64 mi], .int .i64 i, .slice Aa na ca, .slice Ab ng cb, .int .i64 less] W fun e w' => e = .returned (.bool true) ∧ Below W.heap.size W w' := by
  obtain ⟨r, hr⟩ : ∃ r, runR m ⟨20000, 256, 1024⟩ i vs gs = r := ⟨_, rfl⟩
  have HT : Hid (TrapsOk r gs) := Lib.hid (by rw [← hr]; exact traps_ok _ _ _ _ _)
  have HNG := Lib.hid hng
  have HR := Lib.hid hr
  have HLESS := Lib.hid hless
  clear hr hless
  have HQ : Hid ((!greatB nmg np nm ps) = false) := Lib.hid (by rw [hq]; rfl)
  have q1 : decide ((20 : Int) < (na : Int)) = false := by rw [decide_eq_false_iff_not]; omega
  have q2 : decide ((20 : Int) < (ng : Int)) = false := by rw [decide_eq_false_iff_not]; omega
  have HI := Lib.hid hI
  clear hq hI hna hng
  obtain ⟨w1, hw1⟩ : ∃ V, W.alloc (.cells #[.slice Mg nmg cmg, .slice Mp np cp, .slice Mm nm cm, .int .i64 mi] 25) = V := ⟨_, rfl⟩
  obtain ⟨b, hb⟩ : ∃ b, W.heap.size = b := ⟨_, rfl⟩
  have B1 : Blk w1 b [.slice Mg nmg cmg, .slice Mp np cp, .slice Mm nm cm, .int .i64 mi] := by rw [← hw1, ← hb]; exact Blk.new _ _ _
  have hB1 : Below W.heap.size W w1 := by rw [← hw1]; exact (Below.refl _ _).alloc (Nat.le_refl _) _
  have HW := Lib.hid (And.intro hw1 hb)
  have HA := fun (V : World) => Lib.hid (awake_ok V)
  have HG := Lib.hid (And.intro B1 (And.intro hB1 (fun (V : World) (h : Below W.heap.size W V) => great_any Mg nmg cmg Mp np cp Mm nm cm mi ps V (hps.below h))))
  clear hw1 hb B1 hB1 hps
  go_enter Try.func5, Try.ntmps5
  go_wp2_with fail
  rw [HW.out.1, HW.out.2]
  refine (HA _).out.mono ?_
  rintro e w2 ⟨rfl, hb2⟩
  have B2 := HG.out.1.below hb2
  have HB2 := Lib.hid (And.intro B2 (below_next HG.out.2.1 hb2))
  have r0 := B2.c 0 _ rfl
  have r1 := B2.c 1 _ rfl
  have r2 := B2.c 2 _ rfl
  have r3 := B2.c 3 _ rfl
  have fr0 := B2.f 0
  have fr1 := B2.f 1
  have fr2 := B2.f 2
  have fr3 := B2.f 3
  have lr := B2.l
  clear B2 hb2
  go_wp2_with fail
  refine (HG.out.2.2 _ HB2.out.2).mono ?_
  rintro e w3 ⟨rfl, hb3⟩
  have HB3 := Lib.hid (And.intro (HB2.out.1.below hb3) (below_next HB2.out.2 hb3))
  clear r0 r1 r2 r3 fr0 fr1 fr2 fr3 lr hb3
  rw [HQ.out]
  go_upto_region 5 with fail
  have HM := fun (W : World) => Lib.hid (most_at W)
  have hr := HR.out
  have HRUN : Hid (∀ V, Below w3.heap.size w3 V → Calls Try.prog 8 #[.agg #[.slice Mg nmg cmg, .slice Mp np cp, .slice Mm nm cm, .int .i64 mi], .int .i64 i, .slice Aa na ca, .slice Ab ng cb, .agg #[.int .i64 20000, .int .i64 256, .int .i64 1024]] V fun e V' => RunTo V r e V') := Lib.hid (fun V h => by
    have k := HI.out.calls (ca := ca) (cb := cb) i ⟨20000, 256, 1024⟩ (by decide) V (below_next (HB3.out.2) h)
    rw [hr] at k
    exact k)
  clear hr
  go_cut [11, 12, 13, 14] (fun s9 s10 s11 s12 wx => RC w3 r s9 s10 s11 s12 wx)
  case first =>
    as_aux_lemma =>
      refine wp_region_J (by kernel_rfl) (by kernel_rfl) (fun L a V => ∃ jA jk jg1 jg2 jx0 jx1 jx2 jx3 jy0 jy1 jy2 jvc jvm jv0 jv1 jv2 jv3 jva jvb jvu jvv pp0 pp1 pp2 pp3 pp4, a = { tmps := #[.agg #[.slice Mg nmg cmg, .slice Mp np cp, .slice Mm nm cm, .int .i64 mi], .int .i64 i, .slice Aa na ca, .slice Ab ng cb, .int .i64 less, .pointer (some ⟨b, 0, none⟩), undef, undef, undef, undef, .bool false, jvu, jva, jvb, jvv, undef, undef, undef, undef, undef, undef, undef, undef, .bool true, .bool false, .agg #[.slice Mg nmg cmg, .slice Mp np cp, .slice Mm nm cm, .int .i64 mi], .bool false, .bool false, .slice Aa na ca, .int .i64 ↑na, .bool false, .bool false, .bool false, .slice Ab ng cb, .int .i64 ↑ng, .bool false, .bool false, jvm, pp0, pp1, pp2, pp3, pp4, jvc, jv0, jv1, jv2, jv3, undef, undef, undef, undef, undef, undef, undef, undef, undef, undef, undef, undef, undef, undef, undef, undef, undef, undef, undef, undef, undef, undef, undef, undef, undef, undef, undef, undef, undef, undef, undef, undef, undef, undef, undef, undef, undef, undef, undef, undef, undef, undef, undef, undef, undef, undef, undef, undef, undef, undef, undef, undef, undef, undef, undef], defers := [] } ∧ RJ w3 r (L 5) (L 6) (L 7) (L 8) (L 9) (L 10) (L 11) (L 12) (L 14) (L 15) (L 13) (L 16) jA jk jg1 jg2 jx0 jx1 jx2 jx3 jy0 jy1 jy2 jvc jvm jv0 jv1 jv2 jv3 jva jvb jvu jvv V ∧ PA (.agg #[.slice Mg nmg cmg, .slice Mp np cp, .slice Mm nm cm, .int .i64 mi]) (.int .i64 i) (.slice Aa na ca) (.slice Ab ng cb) (.agg #[.int .i64 20000, .int .i64 256, .int .i64 1024]) (L 0) (L 1) (L 2) (L 3) (L 4) pp0 pp1 pp2 pp3 pp4) ?_ ?_ ?_
      · exact ⟨none, 0, 0, 0, undef, undef, undef, undef, undef, undef, undef, undef, undef, undef, undef, undef, undef, undef, undef, undef, undef, undef, undef, undef, undef, undef, rfl, RJ.none _ _ _ _ _ _ _ _ _ _ _ _ _ _ _ _ _ _ _ _ _ _ _, ⟨nofun, nofun, nofun, nofun, nofun⟩⟩
      · intro L a V i o hJ hL ho hdep K' hK
        obtain ⟨jA, jk, jg1, jg2, jx0, jx1, jx2, jx3, jy0, jy1, jy2, jvc, jvm, jv0, jv1, jv2, jv3, jva, jvb, jvu, jvv, pp0, pp1, pp2, pp3, pp4, rfl, h, hp⟩ := hJ
        have HK := Lib.hid hK
        clear hK
        have hlen := (Array.getElem?_eq_some_iff.1 ho).1
        match i, ho, hL, hlen with
        | 0, ho, hL, _ =>
          obtain rfl := Option.some.inj ho
          clear ho
          have Bd := (HB3.out.1).below h.b
          have d0 := Bd.c 0 _ rfl
          have d1 := Bd.c 1 _ rfl
          have d2 := Bd.c 2 _ rfl
          have d3 := Bd.c 3 _ rfl
          clear Bd hdep
          go_simp
          exact HK.out _ _ ⟨_, _, _, _, _, _, _, _, _, _, _, _, _, _, _, _, _, _, _, _, _, _, _, _, _, _, rfl, h, { hp with q0 := fun _ => rfl }⟩
        | 1, ho, hL, _ =>
          obtain rfl := Option.some.inj ho
          clear ho
          clear hdep
          go_simp
          exact HK.out _ _ ⟨_, _, _, _, _, _, _, _, _, _, _, _, _, _, _, _, _, _, _, _, _, _, _, _, _, _, rfl, h, { hp with q1 := fun _ => rfl }⟩
        | 2, ho, hL, _ =>
          obtain rfl := Option.some.inj ho
          clear ho
          clear hdep
          go_simp
          exact HK.out _ _ ⟨_, _, _, _, _, _, _, _, _, _, _, _, _, _, _, _, _, _, _, _, _, _, _, _, _, _, rfl, h, { hp with q2 := fun _ => rfl }⟩
        | 3, ho, hL, _ =>
          obtain rfl := Option.some.inj ho
          clear ho
          clear hdep
          go_simp
          exact HK.out _ _ ⟨_, _, _, _, _, _, _, _, _, _, _, _, _, _, _, _, _, _, _, _, _, _, _, _, _, _, rfl, h, { hp with q3 := fun _ => rfl }⟩
        | 4, ho, hL, _ =>
          obtain rfl := Option.some.inj ho
          clear ho
          clear hdep
          go_simp
          refine (HM _).out.mono ?_
          rintro e V' ⟨rfl, hb⟩
          go_simp
          exact HK.out _ _ ⟨_, _, _, _, _, _, _, _, _, _, _, _, _, _, _, _, _, _, _, _, _, _, _, _, _, _, rfl, (h.pre hb), { hp with q4 := fun _ => rfl }⟩
        | 5, ho, hL, _ =>
          obtain rfl := Option.some.inj ho
          clear ho
          have q0 : L 0 = true := hdep ⟨0, .data⟩ (by simp) rfl
          have q1 : L 1 = true := hdep ⟨1, .data⟩ (by simp) rfl
          have q2 : L 2 = true := hdep ⟨2, .data⟩ (by simp) rfl
          have q3 : L 3 = true := hdep ⟨3, .data⟩ (by simp) rfl
          have q4 : L 4 = true := hdep ⟨4, .data⟩ (by simp) rfl
          clear hdep
          obtain rfl := hp.q0 q0
          obtain rfl := hp.q1 q1
          obtain rfl := hp.q2 q2
          obtain rfl := hp.q3 q3
          obtain rfl := hp.q4 q4
          go_simp
          refine (HRUN.out V h.b).mono ?_
          rintro e V' ⟨A', k', rfl, hb, hgl⟩
          go_simp
          exact HK.out _ _ ⟨_, _, _, _, _, _, _, _, _, _, _, _, _, _, _, _, _, _, _, _, _, _, _, _, _, _, rfl, (h.call' hL hb hgl), hp⟩
        | 6, ho, hL, _ =>
          obtain rfl := Option.some.inj ho
          clear ho
          have q5 : L 5 = true := hdep ⟨5, .data⟩ (by simp) rfl
          clear hdep
          obtain rfl := (h.c q5).1
          go_simp
          exact HK.out _ _ ⟨_, _, _, _, _, _, _, _, _, _, _, _, _, _, _, _, _, _, _, _, _, _, _, _, _, _, rfl, h.mv' q5, hp⟩
        | 7, ho, hL, _ =>
          obtain rfl := Option.some.inj ho
          clear ho
          have q6 : L 6 = true := hdep ⟨6, .data⟩ (by simp) rfl
          clear hdep
          obtain rfl := (h.m q6).2
          unfold rtup
          go_simp
          exact HK.out _ _ ⟨_, _, _, _, _, _, _, _, _, _, _, _, _, _, _, _, _, _, _, _, _, _, _, _, _, _, rfl, (h.part0' q6), hp⟩
        | 8, ho, hL, _ =>
          obtain rfl := Option.some.inj ho
          clear ho
          have q6 : L 6 = true := hdep ⟨6, .data⟩ (by simp) rfl
          clear hdep
          obtain rfl := (h.m q6).2
          unfold rtup
          go_simp
          exact HK.out _ _ ⟨_, _, _, _, _, _, _, _, _, _, _, _, _, _, _, _, _, _, _, _, _, _, _, _, _, _, rfl, h.part1, hp⟩
        | 9, ho, hL, _ =>
          obtain rfl := Option.some.inj ho
          clear ho
          have q6 : L 6 = true := hdep ⟨6, .data⟩ (by simp) rfl
          clear hdep
          obtain rfl := (h.m q6).2
          unfold rtup
          go_simp
          exact HK.out _ _ ⟨_, _, _, _, _, _, _, _, _, _, _, _, _, _, _, _, _, _, _, _, _, _, _, _, _, _, rfl, h.part2, hp⟩
        | 10, ho, hL, _ =>
          obtain rfl := Option.some.inj ho
          clear ho
          have q6 : L 6 = true := hdep ⟨6, .data⟩ (by simp) rfl
          clear hdep
          obtain rfl := (h.m q6).2
          unfold rtup
          go_simp
          exact HK.out _ _ ⟨_, _, _, _, _, _, _, _, _, _, _, _, _, _, _, _, _, _, _, _, _, _, _, _, _, _, rfl, h.part3, hp⟩
        | 11, ho, hL, _ =>
          obtain rfl := Option.some.inj ho
          clear ho
          clear hdep
          go_simp
          exact HK.out _ _ ⟨_, _, _, _, _, _, _, _, _, _, _, _, _, _, _, _, _, _, _, _, _, _, _, _, _, _, rfl, (h.al1' hL _ _ _ _ _), hp⟩
        | 12, ho, hL, _ =>
          obtain rfl := Option.some.inj ho
          clear ho
          clear hdep
          go_simp
          exact HK.out _ _ ⟨_, _, _, _, _, _, _, _, _, _, _, _, _, _, _, _, _, _, _, _, _, _, _, _, _, _, rfl, (h.al2' hL _ _ _ _), hp⟩
        | 13, ho, hL, _ =>
          obtain rfl := Option.some.inj ho
          clear ho
          have q7 : L 7 = true := hdep ⟨7, .data⟩ (by simp) rfl
          clear hdep
          obtain rfl := (h.e0 q7).2
          go_simp
          exact HK.out _ _ ⟨_, _, _, _, _, _, _, _, _, _, _, _, _, _, _, _, _, _, _, _, _, _, _, _, _, _, rfl, (h.as1' q7), hp⟩
        | 14, ho, hL, _ =>
          obtain rfl := Option.some.inj ho
          clear ho
          have q11 : L 11 = true := hdep ⟨11, .data⟩ (by simp) rfl
          have q8 : L 8 = true := hdep ⟨8, .data⟩ (by simp) rfl
          have q5 : L 5 = true := hdep ⟨5, .phase⟩ (by simp) rfl
          clear hdep
          obtain rfl := h.e1 q8
          obtain ⟨ea, -, hb, -⟩ := h.a q11
          subst ea
          have d0 := hb.c 0 _ rfl
          have d1 := hb.c 1 _ rfl
          have d2 := hb.c 2 _ rfl
          have d3 := hb.c 3 _ rfl
          have df := hb.f
          have dl := hb.l
          clear hb
          unfold oagg
          go_simp
          exact HK.out _ _ ⟨_, _, _, _, _, _, _, _, _, _, _, _, _, _, _, _, _, _, _, _, _, _, _, _, _, _, rfl, (h.st1' q5 q11), hp⟩
        | 15, ho, hL, _ =>
          obtain rfl := Option.some.inj ho
          clear ho
          have q12 : L 12 = true := hdep ⟨12, .data⟩ (by simp) rfl
          have q9 : L 9 = true := hdep ⟨9, .data⟩ (by simp) rfl
          have q5 : L 5 = true := hdep ⟨5, .phase⟩ (by simp) rfl
          clear hdep
          obtain rfl := h.e2 q9
          obtain ⟨eb, -, hb⟩ := h.bb q12
          subst eb
          have d0 := hb.c 0 _ rfl
          have d1 := hb.c 1 _ rfl
          have d2 := hb.c 2 _ rfl
          have df := hb.f
          have dl := hb.l
          clear hb
          unfold cagg
          go_simp
          exact HK.out _ _ ⟨_, _, _, _, _, _, _, _, _, _, _, _, _, _, _, _, _, _, _, _, _, _, _, _, _, _, rfl, (h.st2' q5 q12), hp⟩
        | 16, ho, hL, _ =>
          obtain rfl := Option.some.inj ho
          clear ho
          have q10 : L 10 = true := hdep ⟨10, .data⟩ (by simp) rfl
          clear hdep
          obtain rfl := h.e3 q10
          go_simp
          exact HK.out _ _ ⟨_, _, _, _, _, _, _, _, _, _, _, _, _, _, _, _, _, _, _, _, _, _, _, _, _, _, rfl, h.as2, hp⟩
        | _ + 17, ho, hL, hlen => exact absurd hlen (by simp)
      · intro L a V hJ hall
        obtain ⟨jA, jk, jg1, jg2, jx0, jx1, jx2, jx3, jy0, jy1, jy2, jvc, jvm, jv0, jv1, jv2, jv3, jva, jvb, jvu, jvv, pp0, pp1, pp2, pp3, pp4, rfl, h, hp⟩ := hJ
        have q : ∀ i, i < 17 → L i = true := fun i hi => hall i hi
        have FIN := h.fin (q 5 (by decide)) (q 11 (by decide)) (q 12 (by decide)) (q 14 (by decide)) (q 15 (by decide)) (q 13 (by decide)) (q 16 (by decide))
        clear h hp hall q
        dsimp only
        go_wp2_with fail
        go_meet
        exact FIN
  case rest =>
    as_aux_lemma =>
      obtain ⟨R, ⟨o0, o1, o2, o3⟩, ⟨u0, u1, u2⟩, ee⟩ := r
      obtain ⟨A, k, g1, g2, rfl, rfl, rfl, rfl, hb, hg, b1, b2, l1, l2, n12, nA2⟩ := RC.open hcut
      have HB4 := Lib.hid (And.intro b1 (And.intro b2 (And.intro hg (And.intro (HB3.out.1.below hb) (And.intro (below_next HB3.out.2 hb) (And.intro l2 (And.intro n12 nA2)))))))
      have HLEN : Hid (R.length ≤ 3000) := Lib.hid (by have e1 : R.length ≤ gs.length := HT.out.len5; have e2 := HI.out.vg.1; have e3 := HNG.out; omega)
      have HW3 := Lib.hid HB3.out.2.size
      have HB3L := Lib.hid HB3.out.1.l
      have r0 := b1.c 0 _ rfl
      have r1 := b1.c 1 _ rfl
      have r2 := b1.c 2 _ rfl
      have r3 := b1.c 3 _ rfl
      have fr0 := b1.f 0
      have fr1 := b1.f 1
      have fr2 := b1.f 2
      have fr3 := b1.f 3
      have lr := b1.l
      have s0 := b2.c 0 _ rfl
      have s1 := b2.c 1 _ rfl
      have s2 := b2.c 2 _ rfl
      have fs0 := b2.f 0
      have fs1 := b2.f 1
      have fs2 := b2.f 2
      have ls := b2.l
      clear b1 b2 hg hb hcut HRUN HM HA HG l1 l2 n12 nA2
      by_cases h0 : ee = 0
      · subst h0
        obtain ⟨hu, hsame, hless⟩ := enough_ok HR.out
        have q3 : decide (u0 < 1) = false := by rw [decide_eq_false_iff_not]; omega
        have HU := Lib.hid (And.intro hu hless)
        have HRUN : Hid (Calls Try.prog 8 #[.agg #[.slice Mg nmg cmg, .slice Mp np cp, .slice Mm nm cm, .int .i64 mi], .int .i64 i, .slice Aa na ca, .slice Ab ng cb, .agg #[.int .i64 u0, .int .i64 u1, .int .i64 u2]] wc fun e V' => RunTo wc (R, (o0, o1, o2, o3), (u0, u1, u2), 0) e V') := Lib.hid (by
          have k := HI.out.calls (ca := ca) (cb := cb) i ⟨u0, u1, u2⟩ (show u0 ≤ 20000 from hu.2) wc HB4.out.2.2.2.2.1
          rw [hsame] at k
          exact k)
        clear hu hless hsame
        have m4 := HB4.out.2.2.2.1.c 0 _ rfl
        have m41 := HB4.out.2.2.2.1.c 1 _ rfl
        have m42 := HB4.out.2.2.2.1.c 2 _ rfl
        have m43 := HB4.out.2.2.2.1.c 3 _ rfl
        go_wp2_with fail
        refine HRUN.out.mono ?_
        rintro e w5 ⟨A2, k2, rfl, hb, hg⟩
        dsimp only [rtup, oagg, cagg]
        have hbA : Below w5.heap.size w5 ((w5.alloc (.cells #[.int .i64 o0, .int .u8 o1, .int .i64 o2, .int .i64 o3] 31)).alloc (.cells #[.int .i64 u0, .int .i64 u1, .int .i64 u2] 33)) := ((Below.refl _ _).alloc (Nat.le_refl _) (.cells #[.int .i64 o0, .int .u8 o1, .int .i64 o2, .int .i64 o3] 31)).alloc (by simp only [World.size_alloc]; omega) (.cells #[.int .i64 u0, .int .i64 u1, .int .i64 u2] 33)
        have bm := ((HB4.out.2.2.2.1).below hb).below hbA
        have b1 := ((HB4.out.1).below hb).below hbA
        have b2 := ((HB4.out.2.1).below hb).below hbA
        have hg1 := ((HB4.out.2.2.1).below hb).below hbA
        have hBn := below_next (below_next (HB4.out.2.2.2.2.1) hb) hbA
        have hgn := hg.below hbA
        have BO := (Blk.new w5 #[.int .i64 o0, .int .u8 o1, .int .i64 o2, .int .i64 o3] 31).alloc (.cells #[.int .i64 u0, .int .i64 u1, .int .i64 u2] 33)
        have BC := Blk.new (w5.alloc (.cells #[.int .i64 o0, .int .u8 o1, .int .i64 o2, .int .i64 o3] 31)) #[.int .i64 u0, .int .i64 u1, .int .i64 u2] 33
        have hsz := hb.size
        simp only [World.size_alloc] at BC
        obtain ⟨w6, hw6⟩ : ∃ V, (w5.alloc (.cells #[.int .i64 o0, .int .u8 o1, .int .i64 o2, .int .i64 o3] 31)).alloc (.cells #[.int .i64 u0, .int .i64 u1, .int .i64 u2] 33) = V := ⟨_, rfl⟩
        rw [hw6] at hBn hgn BO BC bm b1 b2 hg1
        have Hw6 := Lib.hid hw6
        clear hw6 hbA hb hg
        have HS : Hid (Calls Try.prog 10 #[.slice A R.length k, .slice A2 R.length k2] w6 fun e w' => e = .returned (.bool true) ∧ Below w6.heap.size w6 w') := Lib.hid ((same_any A A2 R.length k R.length k2 R R w6 hg1.vs hgn.vs HLEN.out HLEN.out).mono (fun e w' h => ⟨by rw [h.1, decide_eq_true rfl], h.2⟩))
        have HB6 := Lib.hid (And.intro bm (And.intro b1 (And.intro b2 (And.intro BO (And.intro BC hBn)))))
        clear bm b1 b2 hg1 hgn BO BC hBn r0 r1 r2 r3 fr0 fr1 fr2 fr3 lr s0 s1 s2 fs0 fs1 fs2 ls m4 m41 m42 m43 HRUN
        go_wp2_with fail
        rw [Hw6.out]
        refine HS.out.mono ?_
        rintro e w7 ⟨rfl, hb7⟩
        have B1 := HB6.out.2.1.below hb7
        have B2 := HB6.out.2.2.1.below hb7
        have C1 := HB6.out.2.2.2.1.below hb7
        have C2 := HB6.out.2.2.2.2.1.below hb7
        have r0 := B1.c 0 _ rfl
        have r1 := B1.c 1 _ rfl
        have r2 := B1.c 2 _ rfl
        have r3 := B1.c 3 _ rfl
        have fr0 := B1.f 0
        have fr1 := B1.f 1
        have fr2 := B1.f 2
        have fr3 := B1.f 3
        have lr := B1.l
        have s0 := B2.c 0 _ rfl
        have s1 := B2.c 1 _ rfl
        have s2 := B2.c 2 _ rfl
        have fs0 := B2.f 0
        have fs1 := B2.f 1
        have fs2 := B2.f 2
        have ls := B2.l
        have x0 := C1.c 0 _ rfl
        have x1 := C1.c 1 _ rfl
        have x2 := C1.c 2 _ rfl
        have x3 := C1.c 3 _ rfl
        have fx0 := C1.f 0
        have fx1 := C1.f 1
        have fx2 := C1.f 2
        have fx3 := C1.f 3
        have lx := C1.l
        have y0 := C2.c 0 _ rfl
        have y1 := C2.c 1 _ rfl
        have y2 := C2.c 2 _ rfl
        have fy0 := C2.f 0
        have fy1 := C2.f 1
        have fy2 := C2.f 2
        have ly := C2.l
        have HB7 := Lib.hid (And.intro B2 (And.intro (HB6.out.1.below hb7) (below_next HB6.out.2.2.2.2.2 hb7)))
        clear B1 B2 C1 C2 hb7
        have e1 : ∀ W, (binOp .neq 31 (.agg #[.int .i64 o0, .int .u8 o1, .int .i64 o2, .int .i64 o3]) (.agg #[.int .i64 o0, .int .u8 o1, .int .i64 o2, .int .i64 o3])).run Try.prog W = .ok (.bool false) W := fun W => out_neq o0 o1 o2 o3 o0 o1 o2 o3 W true (decide_eq_true rfl)
        have e2 : ∀ W, (binOp .neq 33 (.agg #[.int .i64 u0, .int .i64 u1, .int .i64 u2]) (.agg #[.int .i64 u0, .int .i64 u1, .int .i64 u2])).run Try.prog W = .ok (.bool false) W := fun W => cert_neq u0 u1 u2 u0 u1 u2 W true (decide_eq_true rfl)
        obtain ⟨LL, f, hwl, hwu, hT, hWf, hf0, hf1⟩ := rem_ok less u0 HU.out.1
        have hune : ¬ u0 = 0 := by have := HU.out.1; omega
        have hWg : W.heap.size ≤ g2 := by have h1 := HW3.out; have h2 := HB4.out.2.2.2.2.2.1; omega
        have hbg : b ≠ g2 := by have h1 := HB3L.out; have h2 := HB4.out.2.2.2.2.2.1; omega
        have S2 := HB7.out.1.set (j := 0) rfl (.int .i64 f)
        have M8 := HB7.out.2.1.other (b' := g2) (fun e => hbg e.symm) 0 (.int .i64 f)
        have hB8 := Blk.below_set HB7.out.2.2 hWg 0 (.int .i64 f)
        have hB8 : Below W.heap.size W (w7.setCell ⟨g2, 0, none⟩ (.int .i64 f)) := hB8
        have z0 := S2.c 0 _ rfl
        have z1 := S2.c 1 _ rfl
        have z2 := S2.c 2 _ rfl
        have fz0 := S2.f 0
        have fz1 := S2.f 1
        have fz2 := S2.f 2
        have lz := S2.l
        have t0 := M8.c 0 _ rfl
        have t1 := M8.c 1 _ rfl
        have t2 := M8.c 2 _ rfl
        have t3 := M8.c 3 _ rfl
        have ft0 := M8.f 0
        have ft1 := M8.f 1
        have ft2 := M8.f 2
        have ft3 := M8.f 3
        have lt := M8.l
        obtain ⟨r3, hr3⟩ : ∃ x, runR m ⟨f, u1, u2⟩ i vs gs = x := ⟨_, rfl⟩
        have he3 : r3.2.2.2 = 170 := by rw [← hr3]; exact HU.out.2 f hf0 hf1
        obtain ⟨R3, ⟨p0, p1, p2, p3⟩, ⟨v0, v1, v2⟩, e3⟩ := r3
        obtain rfl : e3 = 170 := he3
        have HRUN : Hid (Calls Try.prog 8 #[.agg #[.slice Mg nmg cmg, .slice Mp np cp, .slice Mm nm cm, .int .i64 mi], .int .i64 i, .slice Aa na ca, .slice Ab ng cb, .agg #[.int .i64 f, .int .i64 u1, .int .i64 u2]] (w7.setCell ⟨g2, 0, none⟩ (.int .i64 f)) fun e V' => RunTo (w7.setCell ⟨g2, 0, none⟩ (.int .i64 f)) (R3, (p0, p1, p2, p3), (v0, v1, v2), 170) e V') := Lib.hid (by
          have k := HI.out.calls (ca := ca) (cb := cb) i ⟨f, u1, u2⟩ (show f ≤ 20000 by have := HU.out.1; omega) _ hB8
          rw [hr3] at k
          exact k)
        have HB8 := Lib.hid hB8
        clear hB8 S2 M8 hr3 hf0 hf1 hWg hbg
        go_wp2_with fail
        refine HRUN.out.mono ?_
        rintro e w9 ⟨A3, k3, rfl, hb, hg⟩
        dsimp only [rtup, oagg, cagg]
        have HB9 := Lib.hid (below_next HB8.out hb)
        clear hb hg
        go_wp2_with fail
        go_ret
        exact ⟨rfl, (HB9.out.alloc HB9.out.size _).alloc (by have := HB9.out.size; simp only [World.size_alloc]; omega) _⟩
      · have n1 : (ee != 0) = true := by simp [h0]
        go_wp2_with fail
        go_ret
        exact ⟨rfl, HB4.out.2.2.2.2.1⟩

theorem enough_walk (cs : Array Value) (i : Int) (Aa : Option Addr) (na ca : Nat) (Ab : Option Addr) (ng cb : Nat) (less : Int) (W : World) (hcs : cs.size = Try.prog.cellsOf 25) (hd : deepOk Try.prog W 8 25 cs.toList) (wi : (Lit.int .i64 i).wf = true) (ha : deepOk Try.prog W 8 22 [.slice Aa na ca]) (hb : deepOk Try.prog W 8 22 [.slice Ab ng cb]) (wl : (Lit.int .i64 less).wf = true) :
    Calls Try.prog 5 #[.agg cs, .int .i64 i, .slice Aa na ca, .slice Ab ng cb, .int .i64 less] W fun e w' => e = .returned (.bool true) ∧ Below W.heap.size W w' := by
  obtain ⟨Mg, nmg, cmg, Mp, np, cp, Mm, nm, cm, mi, ps, rfl, hps, hm⟩ := mod_open hcs hd
  rcases Bool.eq_false_or_eq_true (greatB nmg np nm ps) with hq | hq
  · by_cases hna : na ≤ 20
    · by_cases hng : ng ≤ 20
      · obtain ⟨m, hm⟩ := hm hq
        obtain ⟨vs, hv⟩ := vals_arg ha
        obtain ⟨gs, hg⟩ := vals_arg hb
        exact in5 i less (wf_i64' wl) hps hq hna hng (hm _ _ _ _ _ _ hv hg hna hng)
      · exact out5 i less hps (.inr (.inr ⟨hq, hna, by omega⟩))
    · exact out5 i less hps (.inr (.inl ⟨hq, by omega⟩))
  · exact out5 i less hps (.inl hq)
end
#print axioms rem_ok
#print axioms in5
#print axioms enough_walk
end Go.Proofs.Ytkhgpeejmbfmjaa
/- With limits that are just what a call took it comes to the same, with less fuel to the error that says so: for every module, method, arguments, globals and number, no condition. -/
namespace Go.Proofs.Ytkhgpeejmbfmjaa.machineEnough
open Go.ChangeShapes Go.WideShapes Go.ChangeAt Go.RowKit Go.Deep
open Go.ChangeMaps (open_string shut_string)
set_option linter.unusedVariables false

theorem own : ownKnob Try.prog.godebug = none := by kernel_rfl
set_option maxRecDepth 100000 in
theorem lifted (os : Os) (started : os.Started) (H : Type) (enc : TypeId × Value → H) :
    ReturnsInHanded {} Try.checked os 5 .any (Rows.machineEnoughSpec.pre6 enc Try.prog Try.f5 Rows.machineEnoughRow.domain false) (Rows.machineEnoughSpec.post enc Try.prog Try.f5 false true false false) := by
  refine returnsInHanded_of_change_sized (C := Try.checked) own started (by kernel_rfl) Try.func5
    (ChangeSpec.witness6 (enc := enc) (C := Try.checked) false ⟨#[], #[.agg #[.slice none 0 0, .slice none 0 0, .slice none 0 0, .int .i64 0], .int .i64 0, .slice none 0 0, .slice none 0 0, .int .i64 0], []⟩ 8 (by kernel_rfl) (by kernel_rfl) (by kernel_rfl) (by kernel_rfl)) ?_
  intro W base args ds gs before hval0 hW hcnd hsz0 _
  have hsz : (DataW.weightsEach Try.prog (Try.f5.params.toList ++ Rows.machineEnoughSpec.plain.varTypes Try.prog) (ds ++ gs)).all (· ≤ reachBytes) = true := hsz0
  have hval : ∀ (j : Nat) t v, Try.f5.params[j]? = some t → args[j]? = some v → Value.okWide Try.prog W .any base t v := hval0
  have hW' := hW
  obtain ⟨p, q, hA0, hV, rfl, hfz, hnd⟩ := hW
  have hA : DataW.TrodAll enc Try.prog W 0 (fun _ => true) true Try.f5.params.toList args.toList ds p := hA0
  rw [Try.params5] at hA hval hsz
  obtain ⟨v0, vs0, d0, ds0, p0, q0, hargs, rfl, rfl, h0, r0⟩ := trodAll_cons hA
  obtain ⟨v1, vs1, d1, ds1, p1, q1, rfl, rfl, rfl, h1, r1⟩ := trodAll_cons r0
  obtain ⟨v2, vs2, d2, ds2, p2, q2, rfl, rfl, rfl, h2, r2⟩ := trodAll_cons r1
  obtain ⟨v3, vs3, d3, ds3, p3, q3, rfl, rfl, rfl, h3, r3⟩ := trodAll_cons r2
  obtain ⟨v4, vs4, d4, ds4, p4, q4, rfl, rfl, rfl, h4, r4⟩ := trodAll_cons r3
  obtain ⟨rfl, rfl, rfl⟩ := trodAll_nil r4
  obtain rfl : args = #[v0, v1, v2, v3, v4] := by cases args; simp_all
  obtain ⟨rfl, rfl⟩ := trodVars_none hV
  have h0k := h0
  have hlt0 : ∀ x ∈ p0, x.block < W.heap.size := fun x hx => by simpa using hW'.lt x (by simp [hx])
  obtain ⟨c0, rfl, w0, u0⟩ := open_deep_agg Try.underlying25 (hval 0 25 v0 rfl rfl) h0 hlt0
  obtain ⟨a1, rfl, rfl, rfl, w1⟩ := open_int Try.underlying3 (hval 1 3 v1 rfl rfl) h1
  have h2k := h2
  have hlt2 : ∀ x ∈ p2, x.block < W.heap.size := fun x hx => by simpa using hW'.lt x (by simp [hx])
  obtain ⟨A2, n2, cap2, rfl, u2⟩ := open_deep_slice Try.underlying22 (hval 2 22 v2 rfl rfl) h2 hlt2
  have h3k := h3
  have hlt3 : ∀ x ∈ p3, x.block < W.heap.size := fun x hx => by simpa using hW'.lt x (by simp [hx])
  obtain ⟨A3, n3, cap3, rfl, u3⟩ := open_deep_slice Try.underlying22 (hval 3 22 v3 rfl rfl) h3 hlt3
  obtain ⟨a4, rfl, rfl, rfl, w4⟩ := open_int Try.underlying3 (hval 4 3 v4 rfl rfl) h4
  clear hA0 hval0 hsz0 hsz
  refine (enough_walk c0 a1 A2 n2 cap2 A3 n3 cap3 a4 W w0 u0 w1 u2 u3 w4).mono fun e W' ⟨he, bel⟩ => ?_
  subst he
  exact ⟨_, rfl, _, _, _, [], _, [], hW', trodAll_mk1 (shut_bool Try.underlying4 _), (trodAll_cons_mk (Below.trod (P := Try.prog) (by kernel_rfl) (by kernel_rfl) (of_decide_eq_true (by kernel_rfl)) h0k bel hlt0) (trodAll_cons_mk (shut_int Try.underlying3 w1) (trodAll_cons_mk (Below.trod (P := Try.prog) (by kernel_rfl) (by kernel_rfl) (of_decide_eq_true (by kernel_rfl)) h2k bel hlt2) (trodAll_cons_mk (Below.trod (P := Try.prog) (by kernel_rfl) (by kernel_rfl) (of_decide_eq_true (by kernel_rfl)) h3k bel hlt3) (trodAll_cons_mk (shut_int Try.underlying3 w4) trodAll_mk0))))), rfl, bel.frame _, fun h => by cases h⟩
theorem over : Rows.machineEnoughRow.holds Try.pinned (OpenSpec.ofChange Rows.machineEnoughSpec) :=
  OpenClaim.holds_of_wide 5 Try.f5 rfl rfl rfl rfl rfl rfl rfl ⟨rfl, rfl, rfl, rfl, rfl⟩ rfl rfl rfl rfl rfl (by kernel_rfl) Try.func5 (by kernel_rfl)
    (of_decide_eq_true (by kernel_rfl)) (by unfold Func.isWrapper; first | (rw [if_pos (by decide +kernel)]; kernel_rfl) | (rw [if_neg (by decide +kernel)]; exact ⟨rfl, rfl⟩))
    (fun os started H enc _ => lifted os started H enc)
theorem proved : Rows.MachineEnoughSaid := over
end Go.Proofs.Ytkhgpeejmbfmjaa.machineEnough
namespace Go.Proofs.Ytkhgpeejmbfmjaa
/-- The row, under a short name, for the claim. -/
theorem machineEnough_holds : Rows.MachineEnoughSaid := machineEnough.proved
#print axioms machineEnough_holds
end Go.Proofs.Ytkhgpeejmbfmjaa
