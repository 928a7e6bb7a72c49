/- With greater limits a call that came to something comes to the same, and took as much: for every module, method, arguments, globals, limits and how much more, no condition. -/
import Derived.Test.YtkhgpeejmbfmjaaPart31
import Derived.Test.YtkhgpeejmbfmjaaPart30
import Derived.Test.YtkhgpeejmbfmjaaRows
import Derived.WalkKit
import Derived.ProofKit
import Derived.OpenShut
import Derived.ShutString
import Derived.ChangeOld
import Derived.Below
import Derived.SizedLaws
import Derived.Deep.Slices
import Derived.Deep.Fields
import Derived.ChangeSame
/- MachineMore. -/
namespace Go.Proofs.Ytkhgpeejmbfmjaa
open Go.RowKit
set_option linter.unusedSimpArgs false
set_option linter.unusedVariables false
set_option maxRecDepth 100000
section
variable {w0 W : World} {X : Sx} {rb : Nat} {fgs : List Nat} {c : Nat} {s : Mc} {K : Nat → Prop} {fg : Nat}
set_option maxHeartbeats 1000000 in
theorem out4_g {Mg : Option Addr} {nmg cmg : Nat} {Mp : Option Addr} {np cp : Nat} {Mm : Option Addr} {nm cm : Nat} {mi : Int} {ps : List Pm} {Aa : Option Addr} {na ca : Nat} {Ab : Option Addr} {ng cb : Nat} {W : World} (i l0 l1 l2 m0 m1 m2 : Int) (hps : PmsAt W Mm nm ps) (hq : greatB nmg np nm ps = false)  :
    Calls Try.prog 4 #[.agg #[.slice Mg nmg cmg, .slice Mp np cp, .slice Mm nm cm, .int .i64 mi], .int .i64 i, .slice Aa na ca, .slice Ab ng cb, .agg #[.int .i64 l0, .int .i64 l1, .int .i64 l2], .agg #[.int .i64 m0, .int .i64 m1, .int .i64 m2]] W fun e w' => e = .returned (.bool true) ∧ Below W.heap.size W w' := by
  have HQ : Hid ((!greatB nmg np nm ps) = true) := Lib.hid (by rw [hq]; rfl)
  clear hq
  obtain ⟨w1, hw1⟩ : ∃ V, ((W.alloc (.cells #[.slice Mg nmg cmg, .slice Mp np cp, .slice Mm nm cm, .int .i64 mi] 25)).alloc (.cells #[.int .i64 l0, .int .i64 l1, .int .i64 l2] 33)).alloc (.cells #[.int .i64 m0, .int .i64 m1, .int .i64 m2] 33) = V := ⟨_, rfl⟩
  obtain ⟨b, hb⟩ : ∃ b, W.heap.size = b := ⟨_, rfl⟩
  have BM1 := ((Blk.new W #[.slice Mg nmg cmg, .slice Mp np cp, .slice Mm nm cm, .int .i64 mi] 25).alloc (.cells #[.int .i64 l0, .int .i64 l1, .int .i64 l2] 33)).alloc (.cells #[.int .i64 m0, .int .i64 m1, .int .i64 m2] 33)
  have BL1 := (Blk.new (W.alloc (.cells #[.slice Mg nmg cmg, .slice Mp np cp, .slice Mm nm cm, .int .i64 mi] 25)) #[.int .i64 l0, .int .i64 l1, .int .i64 l2] 33).alloc (.cells #[.int .i64 m0, .int .i64 m1, .int .i64 m2] 33)
  have BR1 := Blk.new ((W.alloc (.cells #[.slice Mg nmg cmg, .slice Mp np cp, .slice Mm nm cm, .int .i64 mi] 25)).alloc (.cells #[.int .i64 l0, .int .i64 l1, .int .i64 l2] 33)) #[.int .i64 m0, .int .i64 m1, .int .i64 m2] 33
  have hB1 : Below W.heap.size W (((W.alloc (.cells #[.slice Mg nmg cmg, .slice Mp np cp, .slice Mm nm cm, .int .i64 mi] 25)).alloc (.cells #[.int .i64 l0, .int .i64 l1, .int .i64 l2] 33)).alloc (.cells #[.int .i64 m0, .int .i64 m1, .int .i64 m2] 33)) := (((Below.refl _ _).alloc (Nat.le_refl _) _).alloc (by simp only [World.size_alloc]; omega) _).alloc (by simp only [World.size_alloc]; omega) _
  simp only [World.size_alloc] at BL1 BR1
  rw [hw1] at BM1 BL1 BR1 hB1
  rw [hb] at BM1 BL1 BR1
  have HW := Lib.hid (And.intro hw1 hb)
  have HA := fun (V : World) => Lib.hid (awake_ok V)
  have HG := Lib.hid (And.intro BM1 (And.intro BL1 (And.intro BR1 (And.intro hB1 (fun (V : World) (h : Below W.heap.size W V) => great_any Mg nmg cmg Mp np cp Mm nm cm mi ps V (hps.below h))))))
  clear hw1 hb BM1 BL1 BR1 hB1 hps
  go_enter Try.func4, Try.ntmps4
  go_wp2_with fail
  rw [HW.out.1, HW.out.2]
  refine (HA _).out.mono ?_
  rintro e w2 ⟨rfl, hb2⟩
  have B2 := HG.out.1.below hb2
  have HB2 := Lib.hid (And.intro B2 (And.intro (HG.out.2.1.below hb2) (And.intro (HG.out.2.2.1.below hb2) (below_next HG.out.2.2.2.1 hb2))))
  have r0 := B2.c 0 _ rfl
  have r1 := B2.c 1 _ rfl
  have r2 := B2.c 2 _ rfl
  have r3 := B2.c 3 _ rfl
  have fr0 := B2.f 0
  have fr1 := B2.f 1
  have fr2 := B2.f 2
  have fr3 := B2.f 3
  have lr := B2.l
  clear B2 hb2
  go_wp2_with fail
  refine (HG.out.2.2.2.2 _ HB2.out.2.2.2).mono ?_
  rintro e w3 ⟨rfl, hb3⟩
  have B3 := HB2.out.1.below hb3
  have L3 := HB2.out.2.1.below hb3
  have R3 := HB2.out.2.2.1.below hb3
  have HB3 := Lib.hid (And.intro B3 (And.intro L3 (And.intro R3 (below_next HB2.out.2.2.2 hb3))))
  clear r0 r1 r2 r3 fr0 fr1 fr2 fr3 lr hb3
  rw [HQ.out]
  have r0 := B3.c 0 _ rfl
  have r1 := B3.c 1 _ rfl
  have r2 := B3.c 2 _ rfl
  have r3 := B3.c 3 _ rfl
  have fr0 := B3.f 0
  have fr1 := B3.f 1
  have fr2 := B3.f 2
  have fr3 := B3.f 3
  have lr := B3.l
  have s0 := L3.c 0 _ rfl
  have s1 := L3.c 1 _ rfl
  have s2 := L3.c 2 _ rfl
  have fs0 := L3.f 0
  have fs1 := L3.f 1
  have fs2 := L3.f 2
  have ls := L3.l
  have t0 := R3.c 0 _ rfl
  have t1 := R3.c 1 _ rfl
  have t2 := R3.c 2 _ rfl
  have ft0 := R3.f 0
  have ft1 := R3.f 1
  have ft2 := R3.f 2
  have lt := R3.l
  clear B3 L3 R3
  go_wp2_with fail
  go_ret
  exact ⟨rfl, HB3.out.2.2.2⟩
set_option maxHeartbeats 1000000 in
theorem out4_0 {Mg : Option Addr} {nmg cmg : Nat} {Mp : Option Addr} {np cp : Nat} {Mm : Option Addr} {nm cm : Nat} {mi : Int} {ps : List Pm} {Aa : Option Addr} {na ca : Nat} {Ab : Option Addr} {ng cb : Nat} {W : World} (i l0 l1 l2 m0 m1 m2 : Int) (hps : PmsAt W Mm nm ps) (hq : greatB nmg np nm ps = true)  (h0 : (20 : Int) < (na : Int)) :
    Calls Try.prog 4 #[.agg #[.slice Mg nmg cmg, .slice Mp np cp, .slice Mm nm cm, .int .i64 mi], .int .i64 i, .slice Aa na ca, .slice Ab ng cb, .agg #[.int .i64 l0, .int .i64 l1, .int .i64 l2], .agg #[.int .i64 m0, .int .i64 m1, .int .i64 m2]] W fun e w' => e = .returned (.bool true) ∧ Below W.heap.size W w' := by
  have HQ : Hid ((!greatB nmg np nm ps) = false) := Lib.hid (by rw [hq]; rfl)
  have q0 : decide ((20 : Int) < (na : Int)) = true := decide_eq_true h0
  clear hq h0
  obtain ⟨w1, hw1⟩ : ∃ V, ((W.alloc (.cells #[.slice Mg nmg cmg, .slice Mp np cp, .slice Mm nm cm, .int .i64 mi] 25)).alloc (.cells #[.int .i64 l0, .int .i64 l1, .int .i64 l2] 33)).alloc (.cells #[.int .i64 m0, .int .i64 m1, .int .i64 m2] 33) = V := ⟨_, rfl⟩
  obtain ⟨b, hb⟩ : ∃ b, W.heap.size = b := ⟨_, rfl⟩
  have BM1 := ((Blk.new W #[.slice Mg nmg cmg, .slice Mp np cp, .slice Mm nm cm, .int .i64 mi] 25).alloc (.cells #[.int .i64 l0, .int .i64 l1, .int .i64 l2] 33)).alloc (.cells #[.int .i64 m0, .int .i64 m1, .int .i64 m2] 33)
  have BL1 := (Blk.new (W.alloc (.cells #[.slice Mg nmg cmg, .slice Mp np cp, .slice Mm nm cm, .int .i64 mi] 25)) #[.int .i64 l0, .int .i64 l1, .int .i64 l2] 33).alloc (.cells #[.int .i64 m0, .int .i64 m1, .int .i64 m2] 33)
  have BR1 := Blk.new ((W.alloc (.cells #[.slice Mg nmg cmg, .slice Mp np cp, .slice Mm nm cm, .int .i64 mi] 25)).alloc (.cells #[.int .i64 l0, .int .i64 l1, .int .i64 l2] 33)) #[.int .i64 m0, .int .i64 m1, .int .i64 m2] 33
  have hB1 : Below W.heap.size W (((W.alloc (.cells #[.slice Mg nmg cmg, .slice Mp np cp, .slice Mm nm cm, .int .i64 mi] 25)).alloc (.cells #[.int .i64 l0, .int .i64 l1, .int .i64 l2] 33)).alloc (.cells #[.int .i64 m0, .int .i64 m1, .int .i64 m2] 33)) := (((Below.refl _ _).alloc (Nat.le_refl _) _).alloc (by simp only [World.size_alloc]; omega) _).alloc (by simp only [World.size_alloc]; omega) _
  simp only [World.size_alloc] at BL1 BR1
  rw [hw1] at BM1 BL1 BR1 hB1
  rw [hb] at BM1 BL1 BR1
  have HW := Lib.hid (And.intro hw1 hb)
  have HA := fun (V : World) => Lib.hid (awake_ok V)
  have HG := Lib.hid (And.intro BM1 (And.intro BL1 (And.intro BR1 (And.intro hB1 (fun (V : World) (h : Below W.heap.size W V) => great_any Mg nmg cmg Mp np cp Mm nm cm mi ps V (hps.below h))))))
  clear hw1 hb BM1 BL1 BR1 hB1 hps
  go_enter Try.func4, Try.ntmps4
  go_wp2_with fail
  rw [HW.out.1, HW.out.2]
  refine (HA _).out.mono ?_
  rintro e w2 ⟨rfl, hb2⟩
  have B2 := HG.out.1.below hb2
  have HB2 := Lib.hid (And.intro B2 (And.intro (HG.out.2.1.below hb2) (And.intro (HG.out.2.2.1.below hb2) (below_next HG.out.2.2.2.1 hb2))))
  have r0 := B2.c 0 _ rfl
  have r1 := B2.c 1 _ rfl
  have r2 := B2.c 2 _ rfl
  have r3 := B2.c 3 _ rfl
  have fr0 := B2.f 0
  have fr1 := B2.f 1
  have fr2 := B2.f 2
  have fr3 := B2.f 3
  have lr := B2.l
  clear B2 hb2
  go_wp2_with fail
  refine (HG.out.2.2.2.2 _ HB2.out.2.2.2).mono ?_
  rintro e w3 ⟨rfl, hb3⟩
  have B3 := HB2.out.1.below hb3
  have L3 := HB2.out.2.1.below hb3
  have R3 := HB2.out.2.2.1.below hb3
  have HB3 := Lib.hid (And.intro B3 (And.intro L3 (And.intro R3 (below_next HB2.out.2.2.2 hb3))))
  clear r0 r1 r2 r3 fr0 fr1 fr2 fr3 lr hb3
  rw [HQ.out]
  have r0 := B3.c 0 _ rfl
  have r1 := B3.c 1 _ rfl
  have r2 := B3.c 2 _ rfl
  have r3 := B3.c 3 _ rfl
  have fr0 := B3.f 0
  have fr1 := B3.f 1
  have fr2 := B3.f 2
  have fr3 := B3.f 3
  have lr := B3.l
  have s0 := L3.c 0 _ rfl
  have s1 := L3.c 1 _ rfl
  have s2 := L3.c 2 _ rfl
  have fs0 := L3.f 0
  have fs1 := L3.f 1
  have fs2 := L3.f 2
  have ls := L3.l
  have t0 := R3.c 0 _ rfl
  have t1 := R3.c 1 _ rfl
  have t2 := R3.c 2 _ rfl
  have ft0 := R3.f 0
  have ft1 := R3.f 1
  have ft2 := R3.f 2
  have lt := R3.l
  clear B3 L3 R3
  go_wp2_with fail
  go_ret
  exact ⟨rfl, HB3.out.2.2.2⟩
set_option maxHeartbeats 1000000 in
theorem out4_1 {Mg : Option Addr} {nmg cmg : Nat} {Mp : Option Addr} {np cp : Nat} {Mm : Option Addr} {nm cm : Nat} {mi : Int} {ps : List Pm} {Aa : Option Addr} {na ca : Nat} {Ab : Option Addr} {ng cb : Nat} {W : World} (i l0 l1 l2 m0 m1 m2 : Int) (hps : PmsAt W Mm nm ps) (hq : greatB nmg np nm ps = true) (h0 : ¬ ((20 : Int) < (na : Int))) (h1 : (20 : Int) < (ng : Int)) :
    Calls Try.prog 4 #[.agg #[.slice Mg nmg cmg, .slice Mp np cp, .slice Mm nm cm, .int .i64 mi], .int .i64 i, .slice Aa na ca, .slice Ab ng cb, .agg #[.int .i64 l0, .int .i64 l1, .int .i64 l2], .agg #[.int .i64 m0, .int .i64 m1, .int .i64 m2]] W fun e w' => e = .returned (.bool true) ∧ Below W.heap.size W w' := by
  have HQ : Hid ((!greatB nmg np nm ps) = false) := Lib.hid (by rw [hq]; rfl)
  have q0 : decide ((20 : Int) < (na : Int)) = false := decide_eq_false h0
  have q1 : decide ((20 : Int) < (ng : Int)) = true := decide_eq_true h1
  clear hq h0 h1
  obtain ⟨w1, hw1⟩ : ∃ V, ((W.alloc (.cells #[.slice Mg nmg cmg, .slice Mp np cp, .slice Mm nm cm, .int .i64 mi] 25)).alloc (.cells #[.int .i64 l0, .int .i64 l1, .int .i64 l2] 33)).alloc (.cells #[.int .i64 m0, .int .i64 m1, .int .i64 m2] 33) = V := ⟨_, rfl⟩
  obtain ⟨b, hb⟩ : ∃ b, W.heap.size = b := ⟨_, rfl⟩
  have BM1 := ((Blk.new W #[.slice Mg nmg cmg, .slice Mp np cp, .slice Mm nm cm, .int .i64 mi] 25).alloc (.cells #[.int .i64 l0, .int .i64 l1, .int .i64 l2] 33)).alloc (.cells #[.int .i64 m0, .int .i64 m1, .int .i64 m2] 33)
  have BL1 := (Blk.new (W.alloc (.cells #[.slice Mg nmg cmg, .slice Mp np cp, .slice Mm nm cm, .int .i64 mi] 25)) #[.int .i64 l0, .int .i64 l1, .int .i64 l2] 33).alloc (.cells #[.int .i64 m0, .int .i64 m1, .int .i64 m2] 33)
  have BR1 := Blk.new ((W.alloc (.cells #[.slice Mg nmg cmg, .slice Mp np cp, .slice Mm nm cm, .int .i64 mi] 25)).alloc (.cells #[.int .i64 l0, .int .i64 l1, .int .i64 l2] 33)) #[.int .i64 m0, .int .i64 m1, .int .i64 m2] 33
  have hB1 : Below W.heap.size W (((W.alloc (.cells #[.slice Mg nmg cmg, .slice Mp np cp, .slice Mm nm cm, .int .i64 mi] 25)).alloc (.cells #[.int .i64 l0, .int .i64 l1, .int .i64 l2] 33)).alloc (.cells #[.int .i64 m0, .int .i64 m1, .int .i64 m2] 33)) := (((Below.refl _ _).alloc (Nat.le_refl _) _).alloc (by simp only [World.size_alloc]; omega) _).alloc (by simp only [World.size_alloc]; omega) _
  simp only [World.size_alloc] at BL1 BR1
  rw [hw1] at BM1 BL1 BR1 hB1
  rw [hb] at BM1 BL1 BR1
  have HW := Lib.hid (And.intro hw1 hb)
  have HA := fun (V : World) => Lib.hid (awake_ok V)
  have HG := Lib.hid (And.intro BM1 (And.intro BL1 (And.intro BR1 (And.intro hB1 (fun (V : World) (h : Below W.heap.size W V) => great_any Mg nmg cmg Mp np cp Mm nm cm mi ps V (hps.below h))))))
  clear hw1 hb BM1 BL1 BR1 hB1 hps
  go_enter Try.func4, Try.ntmps4
  go_wp2_with fail
  rw [HW.out.1, HW.out.2]
  refine (HA _).out.mono ?_
  rintro e w2 ⟨rfl, hb2⟩
  have B2 := HG.out.1.below hb2
  have HB2 := Lib.hid (And.intro B2 (And.intro (HG.out.2.1.below hb2) (And.intro (HG.out.2.2.1.below hb2) (below_next HG.out.2.2.2.1 hb2))))
  have r0 := B2.c 0 _ rfl
  have r1 := B2.c 1 _ rfl
  have r2 := B2.c 2 _ rfl
  have r3 := B2.c 3 _ rfl
  have fr0 := B2.f 0
  have fr1 := B2.f 1
  have fr2 := B2.f 2
  have fr3 := B2.f 3
  have lr := B2.l
  clear B2 hb2
  go_wp2_with fail
  refine (HG.out.2.2.2.2 _ HB2.out.2.2.2).mono ?_
  rintro e w3 ⟨rfl, hb3⟩
  have B3 := HB2.out.1.below hb3
  have L3 := HB2.out.2.1.below hb3
  have R3 := HB2.out.2.2.1.below hb3
  have HB3 := Lib.hid (And.intro B3 (And.intro L3 (And.intro R3 (below_next HB2.out.2.2.2 hb3))))
  clear r0 r1 r2 r3 fr0 fr1 fr2 fr3 lr hb3
  rw [HQ.out]
  have r0 := B3.c 0 _ rfl
  have r1 := B3.c 1 _ rfl
  have r2 := B3.c 2 _ rfl
  have r3 := B3.c 3 _ rfl
  have fr0 := B3.f 0
  have fr1 := B3.f 1
  have fr2 := B3.f 2
  have fr3 := B3.f 3
  have lr := B3.l
  have s0 := L3.c 0 _ rfl
  have s1 := L3.c 1 _ rfl
  have s2 := L3.c 2 _ rfl
  have fs0 := L3.f 0
  have fs1 := L3.f 1
  have fs2 := L3.f 2
  have ls := L3.l
  have t0 := R3.c 0 _ rfl
  have t1 := R3.c 1 _ rfl
  have t2 := R3.c 2 _ rfl
  have ft0 := R3.f 0
  have ft1 := R3.f 1
  have ft2 := R3.f 2
  have lt := R3.l
  clear B3 L3 R3
  go_wp2_with fail
  go_ret
  exact ⟨rfl, HB3.out.2.2.2⟩
set_option maxHeartbeats 1000000 in
theorem out4_2 {Mg : Option Addr} {nmg cmg : Nat} {Mp : Option Addr} {np cp : Nat} {Mm : Option Addr} {nm cm : Nat} {mi : Int} {ps : List Pm} {Aa : Option Addr} {na ca : Nat} {Ab : Option Addr} {ng cb : Nat} {W : World} (i l0 l1 l2 m0 m1 m2 : Int) (hps : PmsAt W Mm nm ps) (hq : greatB nmg np nm ps = true) (h0 : ¬ ((20 : Int) < (na : Int))) (h1 : ¬ ((20 : Int) < (ng : Int))) (h2 : (10000 : Int) < (l0 : Int)) :
    Calls Try.prog 4 #[.agg #[.slice Mg nmg cmg, .slice Mp np cp, .slice Mm nm cm, .int .i64 mi], .int .i64 i, .slice Aa na ca, .slice Ab ng cb, .agg #[.int .i64 l0, .int .i64 l1, .int .i64 l2], .agg #[.int .i64 m0, .int .i64 m1, .int .i64 m2]] W fun e w' => e = .returned (.bool true) ∧ Below W.heap.size W w' := by
  have HQ : Hid ((!greatB nmg np nm ps) = false) := Lib.hid (by rw [hq]; rfl)
  have q0 : decide ((20 : Int) < (na : Int)) = false := decide_eq_false h0
  have q1 : decide ((20 : Int) < (ng : Int)) = false := decide_eq_false h1
  have q2 : decide ((10000 : Int) < (l0 : Int)) = true := decide_eq_true h2
  clear hq h0 h1 h2
  obtain ⟨w1, hw1⟩ : ∃ V, ((W.alloc (.cells #[.slice Mg nmg cmg, .slice Mp np cp, .slice Mm nm cm, .int .i64 mi] 25)).alloc (.cells #[.int .i64 l0, .int .i64 l1, .int .i64 l2] 33)).alloc (.cells #[.int .i64 m0, .int .i64 m1, .int .i64 m2] 33) = V := ⟨_, rfl⟩
  obtain ⟨b, hb⟩ : ∃ b, W.heap.size = b := ⟨_, rfl⟩
  have BM1 := ((Blk.new W #[.slice Mg nmg cmg, .slice Mp np cp, .slice Mm nm cm, .int .i64 mi] 25).alloc (.cells #[.int .i64 l0, .int .i64 l1, .int .i64 l2] 33)).alloc (.cells #[.int .i64 m0, .int .i64 m1, .int .i64 m2] 33)
  have BL1 := (Blk.new (W.alloc (.cells #[.slice Mg nmg cmg, .slice Mp np cp, .slice Mm nm cm, .int .i64 mi] 25)) #[.int .i64 l0, .int .i64 l1, .int .i64 l2] 33).alloc (.cells #[.int .i64 m0, .int .i64 m1, .int .i64 m2] 33)
  have BR1 := Blk.new ((W.alloc (.cells #[.slice Mg nmg cmg, .slice Mp np cp, .slice Mm nm cm, .int .i64 mi] 25)).alloc (.cells #[.int .i64 l0, .int .i64 l1, .int .i64 l2] 33)) #[.int .i64 m0, .int .i64 m1, .int .i64 m2] 33
  have hB1 : Below W.heap.size W (((W.alloc (.cells #[.slice Mg nmg cmg, .slice Mp np cp, .slice Mm nm cm, .int .i64 mi] 25)).alloc (.cells #[.int .i64 l0, .int .i64 l1, .int .i64 l2] 33)).alloc (.cells #[.int .i64 m0, .int .i64 m1, .int .i64 m2] 33)) := (((Below.refl _ _).alloc (Nat.le_refl _) _).alloc (by simp only [World.size_alloc]; omega) _).alloc (by simp only [World.size_alloc]; omega) _
  simp only [World.size_alloc] at BL1 BR1
  rw [hw1] at BM1 BL1 BR1 hB1
  rw [hb] at BM1 BL1 BR1
  have HW := Lib.hid (And.intro hw1 hb)
  have HA := fun (V : World) => Lib.hid (awake_ok V)
  have HG := Lib.hid (And.intro BM1 (And.intro BL1 (And.intro BR1 (And.intro hB1 (fun (V : World) (h : Below W.heap.size W V) => great_any Mg nmg cmg Mp np cp Mm nm cm mi ps V (hps.below h))))))
  clear hw1 hb BM1 BL1 BR1 hB1 hps
  go_enter Try.func4, Try.ntmps4
  go_wp2_with fail
  rw [HW.out.1, HW.out.2]
  refine (HA _).out.mono ?_
  rintro e w2 ⟨rfl, hb2⟩
  have B2 := HG.out.1.below hb2
  have HB2 := Lib.hid (And.intro B2 (And.intro (HG.out.2.1.below hb2) (And.intro (HG.out.2.2.1.below hb2) (below_next HG.out.2.2.2.1 hb2))))
  have r0 := B2.c 0 _ rfl
  have r1 := B2.c 1 _ rfl
  have r2 := B2.c 2 _ rfl
  have r3 := B2.c 3 _ rfl
  have fr0 := B2.f 0
  have fr1 := B2.f 1
  have fr2 := B2.f 2
  have fr3 := B2.f 3
  have lr := B2.l
  clear B2 hb2
  go_wp2_with fail
  refine (HG.out.2.2.2.2 _ HB2.out.2.2.2).mono ?_
  rintro e w3 ⟨rfl, hb3⟩
  have B3 := HB2.out.1.below hb3
  have L3 := HB2.out.2.1.below hb3
  have R3 := HB2.out.2.2.1.below hb3
  have HB3 := Lib.hid (And.intro B3 (And.intro L3 (And.intro R3 (below_next HB2.out.2.2.2 hb3))))
  clear r0 r1 r2 r3 fr0 fr1 fr2 fr3 lr hb3
  rw [HQ.out]
  have r0 := B3.c 0 _ rfl
  have r1 := B3.c 1 _ rfl
  have r2 := B3.c 2 _ rfl
  have r3 := B3.c 3 _ rfl
  have fr0 := B3.f 0
  have fr1 := B3.f 1
  have fr2 := B3.f 2
  have fr3 := B3.f 3
  have lr := B3.l
  have s0 := L3.c 0 _ rfl
  have s1 := L3.c 1 _ rfl
  have s2 := L3.c 2 _ rfl
  have fs0 := L3.f 0
  have fs1 := L3.f 1
  have fs2 := L3.f 2
  have ls := L3.l
  have t0 := R3.c 0 _ rfl
  have t1 := R3.c 1 _ rfl
  have t2 := R3.c 2 _ rfl
  have ft0 := R3.f 0
  have ft1 := R3.f 1
  have ft2 := R3.f 2
  have lt := R3.l
  clear B3 L3 R3
  go_wp2_with fail
  go_ret
  exact ⟨rfl, HB3.out.2.2.2⟩
set_option maxHeartbeats 1000000 in
theorem out4_3 {Mg : Option Addr} {nmg cmg : Nat} {Mp : Option Addr} {np cp : Nat} {Mm : Option Addr} {nm cm : Nat} {mi : Int} {ps : List Pm} {Aa : Option Addr} {na ca : Nat} {Ab : Option Addr} {ng cb : Nat} {W : World} (i l0 l1 l2 m0 m1 m2 : Int) (hps : PmsAt W Mm nm ps) (hq : greatB nmg np nm ps = true) (h0 : ¬ ((20 : Int) < (na : Int))) (h1 : ¬ ((20 : Int) < (ng : Int))) (h2 : ¬ ((10000 : Int) < (l0 : Int))) (h3 : (256 : Int) < (l1 : Int)) :
    Calls Try.prog 4 #[.agg #[.slice Mg nmg cmg, .slice Mp np cp, .slice Mm nm cm, .int .i64 mi], .int .i64 i, .slice Aa na ca, .slice Ab ng cb, .agg #[.int .i64 l0, .int .i64 l1, .int .i64 l2], .agg #[.int .i64 m0, .int .i64 m1, .int .i64 m2]] W fun e w' => e = .returned (.bool true) ∧ Below W.heap.size W w' := by
  have HQ : Hid ((!greatB nmg np nm ps) = false) := Lib.hid (by rw [hq]; rfl)
  have q0 : decide ((20 : Int) < (na : Int)) = false := decide_eq_false h0
  have q1 : decide ((20 : Int) < (ng : Int)) = false := decide_eq_false h1
  have q2 : decide ((10000 : Int) < (l0 : Int)) = false := decide_eq_false h2
  have q3 : decide ((256 : Int) < (l1 : Int)) = true := decide_eq_true h3
  clear hq h0 h1 h2 h3
  obtain ⟨w1, hw1⟩ : ∃ V, ((W.alloc (.cells #[.slice Mg nmg cmg, .slice Mp np cp, .slice Mm nm cm, .int .i64 mi] 25)).alloc (.cells #[.int .i64 l0, .int .i64 l1, .int .i64 l2] 33)).alloc (.cells #[.int .i64 m0, .int .i64 m1, .int .i64 m2] 33) = V := ⟨_, rfl⟩
  obtain ⟨b, hb⟩ : ∃ b, W.heap.size = b := ⟨_, rfl⟩
  have BM1 := ((Blk.new W #[.slice Mg nmg cmg, .slice Mp np cp, .slice Mm nm cm, .int .i64 mi] 25).alloc (.cells #[.int .i64 l0, .int .i64 l1, .int .i64 l2] 33)).alloc (.cells #[.int .i64 m0, .int .i64 m1, .int .i64 m2] 33)
  have BL1 := (Blk.new (W.alloc (.cells #[.slice Mg nmg cmg, .slice Mp np cp, .slice Mm nm cm, .int .i64 mi] 25)) #[.int .i64 l0, .int .i64 l1, .int .i64 l2] 33).alloc (.cells #[.int .i64 m0, .int .i64 m1, .int .i64 m2] 33)
  have BR1 := Blk.new ((W.alloc (.cells #[.slice Mg nmg cmg, .slice Mp np cp, .slice Mm nm cm, .int .i64 mi] 25)).alloc (.cells #[.int .i64 l0, .int .i64 l1, .int .i64 l2] 33)) #[.int .i64 m0, .int .i64 m1, .int .i64 m2] 33
  have hB1 : Below W.heap.size W (((W.alloc (.cells #[.slice Mg nmg cmg, .slice Mp np cp, .slice Mm nm cm, .int .i64 mi] 25)).alloc (.cells #[.int .i64 l0, .int .i64 l1, .int .i64 l2] 33)).alloc (.cells #[.int .i64 m0, .int .i64 m1, .int .i64 m2] 33)) := (((Below.refl _ _).alloc (Nat.le_refl _) _).alloc (by simp only [World.size_alloc]; omega) _).alloc (by simp only [World.size_alloc]; omega) _
  simp only [World.size_alloc] at BL1 BR1
  rw [hw1] at BM1 BL1 BR1 hB1
  rw [hb] at BM1 BL1 BR1
  have HW := Lib.hid (And.intro hw1 hb)
  have HA := fun (V : World) => Lib.hid (awake_ok V)
  have HG := Lib.hid (And.intro BM1 (And.intro BL1 (And.intro BR1 (And.intro hB1 (fun (V : World) (h : Below W.heap.size W V) => great_any Mg nmg cmg Mp np cp Mm nm cm mi ps V (hps.below h))))))
  clear hw1 hb BM1 BL1 BR1 hB1 hps
  go_enter Try.func4, Try.ntmps4
  go_wp2_with fail
  rw [HW.out.1, HW.out.2]
  refine (HA _).out.mono ?_
  rintro e w2 ⟨rfl, hb2⟩
  have B2 := HG.out.1.below hb2
  have HB2 := Lib.hid (And.intro B2 (And.intro (HG.out.2.1.below hb2) (And.intro (HG.out.2.2.1.below hb2) (below_next HG.out.2.2.2.1 hb2))))
  have r0 := B2.c 0 _ rfl
  have r1 := B2.c 1 _ rfl
  have r2 := B2.c 2 _ rfl
  have r3 := B2.c 3 _ rfl
  have fr0 := B2.f 0
  have fr1 := B2.f 1
  have fr2 := B2.f 2
  have fr3 := B2.f 3
  have lr := B2.l
  clear B2 hb2
  go_wp2_with fail
  refine (HG.out.2.2.2.2 _ HB2.out.2.2.2).mono ?_
  rintro e w3 ⟨rfl, hb3⟩
  have B3 := HB2.out.1.below hb3
  have L3 := HB2.out.2.1.below hb3
  have R3 := HB2.out.2.2.1.below hb3
  have HB3 := Lib.hid (And.intro B3 (And.intro L3 (And.intro R3 (below_next HB2.out.2.2.2 hb3))))
  clear r0 r1 r2 r3 fr0 fr1 fr2 fr3 lr hb3
  rw [HQ.out]
  have r0 := B3.c 0 _ rfl
  have r1 := B3.c 1 _ rfl
  have r2 := B3.c 2 _ rfl
  have r3 := B3.c 3 _ rfl
  have fr0 := B3.f 0
  have fr1 := B3.f 1
  have fr2 := B3.f 2
  have fr3 := B3.f 3
  have lr := B3.l
  have s0 := L3.c 0 _ rfl
  have s1 := L3.c 1 _ rfl
  have s2 := L3.c 2 _ rfl
  have fs0 := L3.f 0
  have fs1 := L3.f 1
  have fs2 := L3.f 2
  have ls := L3.l
  have t0 := R3.c 0 _ rfl
  have t1 := R3.c 1 _ rfl
  have t2 := R3.c 2 _ rfl
  have ft0 := R3.f 0
  have ft1 := R3.f 1
  have ft2 := R3.f 2
  have lt := R3.l
  clear B3 L3 R3
  go_wp2_with fail
  go_ret
  exact ⟨rfl, HB3.out.2.2.2⟩
set_option maxHeartbeats 1000000 in
theorem out4_4 {Mg : Option Addr} {nmg cmg : Nat} {Mp : Option Addr} {np cp : Nat} {Mm : Option Addr} {nm cm : Nat} {mi : Int} {ps : List Pm} {Aa : Option Addr} {na ca : Nat} {Ab : Option Addr} {ng cb : Nat} {W : World} (i l0 l1 l2 m0 m1 m2 : Int) (hps : PmsAt W Mm nm ps) (hq : greatB nmg np nm ps = true) (h0 : ¬ ((20 : Int) < (na : Int))) (h1 : ¬ ((20 : Int) < (ng : Int))) (h2 : ¬ ((10000 : Int) < (l0 : Int))) (h3 : ¬ ((256 : Int) < (l1 : Int))) (h4 : (1024 : Int) < (l2 : Int)) :
    Calls Try.prog 4 #[.agg #[.slice Mg nmg cmg, .slice Mp np cp, .slice Mm nm cm, .int .i64 mi], .int .i64 i, .slice Aa na ca, .slice Ab ng cb, .agg #[.int .i64 l0, .int .i64 l1, .int .i64 l2], .agg #[.int .i64 m0, .int .i64 m1, .int .i64 m2]] W fun e w' => e = .returned (.bool true) ∧ Below W.heap.size W w' := by
  have HQ : Hid ((!greatB nmg np nm ps) = false) := Lib.hid (by rw [hq]; rfl)
  have q0 : decide ((20 : Int) < (na : Int)) = false := decide_eq_false h0
  have q1 : decide ((20 : Int) < (ng : Int)) = false := decide_eq_false h1
  have q2 : decide ((10000 : Int) < (l0 : Int)) = false := decide_eq_false h2
  have q3 : decide ((256 : Int) < (l1 : Int)) = false := decide_eq_false h3
  have q4 : decide ((1024 : Int) < (l2 : Int)) = true := decide_eq_true h4
  clear hq h0 h1 h2 h3 h4
  obtain ⟨w1, hw1⟩ : ∃ V, ((W.alloc (.cells #[.slice Mg nmg cmg, .slice Mp np cp, .slice Mm nm cm, .int .i64 mi] 25)).alloc (.cells #[.int .i64 l0, .int .i64 l1, .int .i64 l2] 33)).alloc (.cells #[.int .i64 m0, .int .i64 m1, .int .i64 m2] 33) = V := ⟨_, rfl⟩
  obtain ⟨b, hb⟩ : ∃ b, W.heap.size = b := ⟨_, rfl⟩
  have BM1 := ((Blk.new W #[.slice Mg nmg cmg, .slice Mp np cp, .slice Mm nm cm, .int .i64 mi] 25).alloc (.cells #[.int .i64 l0, .int .i64 l1, .int .i64 l2] 33)).alloc (.cells #[.int .i64 m0, .int .i64 m1, .int .i64 m2] 33)
  have BL1 := (Blk.new (W.alloc (.cells #[.slice Mg nmg cmg, .slice Mp np cp, .slice Mm nm cm, .int .i64 mi] 25)) #[.int .i64 l0, .int .i64 l1, .int .i64 l2] 33).alloc (.cells #[.int .i64 m0, .int .i64 m1, .int .i64 m2] 33)
  have BR1 := Blk.new ((W.alloc (.cells #[.slice Mg nmg cmg, .slice Mp np cp, .slice Mm nm cm, .int .i64 mi] 25)).alloc (.cells #[.int .i64 l0, .int .i64 l1, .int .i64 l2] 33)) #[.int .i64 m0, .int .i64 m1, .int .i64 m2] 33
  have hB1 : Below W.heap.size W (((W.alloc (.cells #[.slice Mg nmg cmg, .slice Mp np cp, .slice Mm nm cm, .int .i64 mi] 25)).alloc (.cells #[.int .i64 l0, .int .i64 l1, .int .i64 l2] 33)).alloc (.cells #[.int .i64 m0, .int .i64 m1, .int .i64 m2] 33)) := (((Below.refl _ _).alloc (Nat.le_refl _) _).alloc (by simp only [World.size_alloc]; omega) _).alloc (by simp only [World.size_alloc]; omega) _
  simp only [World.size_alloc] at BL1 BR1
  rw [hw1] at BM1 BL1 BR1 hB1
  rw [hb] at BM1 BL1 BR1
  have HW := Lib.hid (And.intro hw1 hb)
  have HA := fun (V : World) => Lib.hid (awake_ok V)
  have HG := Lib.hid (And.intro BM1 (And.intro BL1 (And.intro BR1 (And.intro hB1 (fun (V : World) (h : Below W.heap.size W V) => great_any Mg nmg cmg Mp np cp Mm nm cm mi ps V (hps.below h))))))
  clear hw1 hb BM1 BL1 BR1 hB1 hps
  go_enter Try.func4, Try.ntmps4
  go_wp2_with fail
  rw [HW.out.1, HW.out.2]
  refine (HA _).out.mono ?_
  rintro e w2 ⟨rfl, hb2⟩
  have B2 := HG.out.1.below hb2
  have HB2 := Lib.hid (And.intro B2 (And.intro (HG.out.2.1.below hb2) (And.intro (HG.out.2.2.1.below hb2) (below_next HG.out.2.2.2.1 hb2))))
  have r0 := B2.c 0 _ rfl
  have r1 := B2.c 1 _ rfl
  have r2 := B2.c 2 _ rfl
  have r3 := B2.c 3 _ rfl
  have fr0 := B2.f 0
  have fr1 := B2.f 1
  have fr2 := B2.f 2
  have fr3 := B2.f 3
  have lr := B2.l
  clear B2 hb2
  go_wp2_with fail
  refine (HG.out.2.2.2.2 _ HB2.out.2.2.2).mono ?_
  rintro e w3 ⟨rfl, hb3⟩
  have B3 := HB2.out.1.below hb3
  have L3 := HB2.out.2.1.below hb3
  have R3 := HB2.out.2.2.1.below hb3
  have HB3 := Lib.hid (And.intro B3 (And.intro L3 (And.intro R3 (below_next HB2.out.2.2.2 hb3))))
  clear r0 r1 r2 r3 fr0 fr1 fr2 fr3 lr hb3
  rw [HQ.out]
  have r0 := B3.c 0 _ rfl
  have r1 := B3.c 1 _ rfl
  have r2 := B3.c 2 _ rfl
  have r3 := B3.c 3 _ rfl
  have fr0 := B3.f 0
  have fr1 := B3.f 1
  have fr2 := B3.f 2
  have fr3 := B3.f 3
  have lr := B3.l
  have s0 := L3.c 0 _ rfl
  have s1 := L3.c 1 _ rfl
  have s2 := L3.c 2 _ rfl
  have fs0 := L3.f 0
  have fs1 := L3.f 1
  have fs2 := L3.f 2
  have ls := L3.l
  have t0 := R3.c 0 _ rfl
  have t1 := R3.c 1 _ rfl
  have t2 := R3.c 2 _ rfl
  have ft0 := R3.f 0
  have ft1 := R3.f 1
  have ft2 := R3.f 2
  have lt := R3.l
  clear B3 L3 R3
  go_wp2_with fail
  go_ret
  exact ⟨rfl, HB3.out.2.2.2⟩
set_option maxHeartbeats 1000000 in
theorem out4_5 {Mg : Option Addr} {nmg cmg : Nat} {Mp : Option Addr} {np cp : Nat} {Mm : Option Addr} {nm cm : Nat} {mi : Int} {ps : List Pm} {Aa : Option Addr} {na ca : Nat} {Ab : Option Addr} {ng cb : Nat} {W : World} (i l0 l1 l2 m0 m1 m2 : Int) (hps : PmsAt W Mm nm ps) (hq : greatB nmg np nm ps = true) (h0 : ¬ ((20 : Int) < (na : Int))) (h1 : ¬ ((20 : Int) < (ng : Int))) (h2 : ¬ ((10000 : Int) < (l0 : Int))) (h3 : ¬ ((256 : Int) < (l1 : Int))) (h4 : ¬ ((1024 : Int) < (l2 : Int))) (h5 : (m0 : Int) < (0 : Int)) :
    Calls Try.prog 4 #[.agg #[.slice Mg nmg cmg, .slice Mp np cp, .slice Mm nm cm, .int .i64 mi], .int .i64 i, .slice Aa na ca, .slice Ab ng cb, .agg #[.int .i64 l0, .int .i64 l1, .int .i64 l2], .agg #[.int .i64 m0, .int .i64 m1, .int .i64 m2]] W fun e w' => e = .returned (.bool true) ∧ Below W.heap.size W w' := by
  have HQ : Hid ((!greatB nmg np nm ps) = false) := Lib.hid (by rw [hq]; rfl)
  have q0 : decide ((20 : Int) < (na : Int)) = false := decide_eq_false h0
  have q1 : decide ((20 : Int) < (ng : Int)) = false := decide_eq_false h1
  have q2 : decide ((10000 : Int) < (l0 : Int)) = false := decide_eq_false h2
  have q3 : decide ((256 : Int) < (l1 : Int)) = false := decide_eq_false h3
  have q4 : decide ((1024 : Int) < (l2 : Int)) = false := decide_eq_false h4
  have q5 : decide ((m0 : Int) < (0 : Int)) = true := decide_eq_true h5
  clear hq h0 h1 h2 h3 h4 h5
  obtain ⟨w1, hw1⟩ : ∃ V, ((W.alloc (.cells #[.slice Mg nmg cmg, .slice Mp np cp, .slice Mm nm cm, .int .i64 mi] 25)).alloc (.cells #[.int .i64 l0, .int .i64 l1, .int .i64 l2] 33)).alloc (.cells #[.int .i64 m0, .int .i64 m1, .int .i64 m2] 33) = V := ⟨_, rfl⟩
  obtain ⟨b, hb⟩ : ∃ b, W.heap.size = b := ⟨_, rfl⟩
  have BM1 := ((Blk.new W #[.slice Mg nmg cmg, .slice Mp np cp, .slice Mm nm cm, .int .i64 mi] 25).alloc (.cells #[.int .i64 l0, .int .i64 l1, .int .i64 l2] 33)).alloc (.cells #[.int .i64 m0, .int .i64 m1, .int .i64 m2] 33)
  have BL1 := (Blk.new (W.alloc (.cells #[.slice Mg nmg cmg, .slice Mp np cp, .slice Mm nm cm, .int .i64 mi] 25)) #[.int .i64 l0, .int .i64 l1, .int .i64 l2] 33).alloc (.cells #[.int .i64 m0, .int .i64 m1, .int .i64 m2] 33)
  have BR1 := Blk.new ((W.alloc (.cells #[.slice Mg nmg cmg, .slice Mp np cp, .slice Mm nm cm, .int .i64 mi] 25)).alloc (.cells #[.int .i64 l0, .int .i64 l1, .int .i64 l2] 33)) #[.int .i64 m0, .int .i64 m1, .int .i64 m2] 33
  have hB1 : Below W.heap.size W (((W.alloc (.cells #[.slice Mg nmg cmg, .slice Mp np cp, .slice Mm nm cm, .int .i64 mi] 25)).alloc (.cells #[.int .i64 l0, .int .i64 l1, .int .i64 l2] 33)).alloc (.cells #[.int .i64 m0, .int .i64 m1, .int .i64 m2] 33)) := (((Below.refl _ _).alloc (Nat.le_refl _) _).alloc (by simp only [World.size_alloc]; omega) _).alloc (by simp only [World.size_alloc]; omega) _
  simp only [World.size_alloc] at BL1 BR1
  rw [hw1] at BM1 BL1 BR1 hB1
  rw [hb] at BM1 BL1 BR1
  have HW := Lib.hid (And.intro hw1 hb)
  have HA := fun (V : World) => Lib.hid (awake_ok V)
  have HG := Lib.hid (And.intro BM1 (And.intro BL1 (And.intro BR1 (And.intro hB1 (fun (V : World) (h : Below W.heap.size W V) => great_any Mg nmg cmg Mp np cp Mm nm cm mi ps V (hps.below h))))))
  clear hw1 hb BM1 BL1 BR1 hB1 hps
  go_enter Try.func4, Try.ntmps4
  go_wp2_with fail
  rw [HW.out.1, HW.out.2]
  refine (HA _).out.mono ?_
  rintro e w2 ⟨rfl, hb2⟩
  have B2 := HG.out.1.below hb2
  have HB2 := Lib.hid (And.intro B2 (And.intro (HG.out.2.1.below hb2) (And.intro (HG.out.2.2.1.below hb2) (below_next HG.out.2.2.2.1 hb2))))
  have r0 := B2.c 0 _ rfl
  have r1 := B2.c 1 _ rfl
  have r2 := B2.c 2 _ rfl
  have r3 := B2.c 3 _ rfl
  have fr0 := B2.f 0
  have fr1 := B2.f 1
  have fr2 := B2.f 2
  have fr3 := B2.f 3
  have lr := B2.l
  clear B2 hb2
  go_wp2_with fail
  refine (HG.out.2.2.2.2 _ HB2.out.2.2.2).mono ?_
  rintro e w3 ⟨rfl, hb3⟩
  have B3 := HB2.out.1.below hb3
  have L3 := HB2.out.2.1.below hb3
  have R3 := HB2.out.2.2.1.below hb3
  have HB3 := Lib.hid (And.intro B3 (And.intro L3 (And.intro R3 (below_next HB2.out.2.2.2 hb3))))
  clear r0 r1 r2 r3 fr0 fr1 fr2 fr3 lr hb3
  rw [HQ.out]
  have r0 := B3.c 0 _ rfl
  have r1 := B3.c 1 _ rfl
  have r2 := B3.c 2 _ rfl
  have r3 := B3.c 3 _ rfl
  have fr0 := B3.f 0
  have fr1 := B3.f 1
  have fr2 := B3.f 2
  have fr3 := B3.f 3
  have lr := B3.l
  have s0 := L3.c 0 _ rfl
  have s1 := L3.c 1 _ rfl
  have s2 := L3.c 2 _ rfl
  have fs0 := L3.f 0
  have fs1 := L3.f 1
  have fs2 := L3.f 2
  have ls := L3.l
  have t0 := R3.c 0 _ rfl
  have t1 := R3.c 1 _ rfl
  have t2 := R3.c 2 _ rfl
  have ft0 := R3.f 0
  have ft1 := R3.f 1
  have ft2 := R3.f 2
  have lt := R3.l
  clear B3 L3 R3
  go_wp2_with fail
  go_ret
  exact ⟨rfl, HB3.out.2.2.2⟩
set_option maxHeartbeats 1000000 in
theorem out4_6 {Mg : Option Addr} {nmg cmg : Nat} {Mp : Option Addr} {np cp : Nat} {Mm : Option Addr} {nm cm : Nat} {mi : Int} {ps : List Pm} {Aa : Option Addr} {na ca : Nat} {Ab : Option Addr} {ng cb : Nat} {W : World} (i l0 l1 l2 m0 m1 m2 : Int) (hps : PmsAt W Mm nm ps) (hq : greatB nmg np nm ps = true) (h0 : ¬ ((20 : Int) < (na : Int))) (h1 : ¬ ((20 : Int) < (ng : Int))) (h2 : ¬ ((10000 : Int) < (l0 : Int))) (h3 : ¬ ((256 : Int) < (l1 : Int))) (h4 : ¬ ((1024 : Int) < (l2 : Int))) (h5 : ¬ ((m0 : Int) < (0 : Int))) (h6 : (10000 : Int) < (m0 : Int)) :
    Calls Try.prog 4 #[.agg #[.slice Mg nmg cmg, .slice Mp np cp, .slice Mm nm cm, .int .i64 mi], .int .i64 i, .slice Aa na ca, .slice Ab ng cb, .agg #[.int .i64 l0, .int .i64 l1, .int .i64 l2], .agg #[.int .i64 m0, .int .i64 m1, .int .i64 m2]] W fun e w' => e = .returned (.bool true) ∧ Below W.heap.size W w' := by
  have HQ : Hid ((!greatB nmg np nm ps) = false) := Lib.hid (by rw [hq]; rfl)
  have q0 : decide ((20 : Int) < (na : Int)) = false := decide_eq_false h0
  have q1 : decide ((20 : Int) < (ng : Int)) = false := decide_eq_false h1
  have q2 : decide ((10000 : Int) < (l0 : Int)) = false := decide_eq_false h2
  have q3 : decide ((256 : Int) < (l1 : Int)) = false := decide_eq_false h3
  have q4 : decide ((1024 : Int) < (l2 : Int)) = false := decide_eq_false h4
  have q5 : decide ((m0 : Int) < (0 : Int)) = false := decide_eq_false h5
  have q6 : decide ((10000 : Int) < (m0 : Int)) = true := decide_eq_true h6
  clear hq h0 h1 h2 h3 h4 h5 h6
  obtain ⟨w1, hw1⟩ : ∃ V, ((W.alloc (.cells #[.slice Mg nmg cmg, .slice Mp np cp, .slice Mm nm cm, .int .i64 mi] 25)).alloc (.cells #[.int .i64 l0, .int .i64 l1, .int .i64 l2] 33)).alloc (.cells #[.int .i64 m0, .int .i64 m1, .int .i64 m2] 33) = V := ⟨_, rfl⟩
  obtain ⟨b, hb⟩ : ∃ b, W.heap.size = b := ⟨_, rfl⟩
  have BM1 := ((Blk.new W #[.slice Mg nmg cmg, .slice Mp np cp, .slice Mm nm cm, .int .i64 mi] 25).alloc (.cells #[.int .i64 l0, .int .i64 l1, .int .i64 l2] 33)).alloc (.cells #[.int .i64 m0, .int .i64 m1, .int .i64 m2] 33)
  have BL1 := (Blk.new (W.alloc (.cells #[.slice Mg nmg cmg, .slice Mp np cp, .slice Mm nm cm, .int .i64 mi] 25)) #[.int .i64 l0, .int .i64 l1, .int .i64 l2] 33).alloc (.cells #[.int .i64 m0, .int .i64 m1, .int .i64 m2] 33)
  have BR1 := Blk.new ((W.alloc (.cells #[.slice Mg nmg cmg, .slice Mp np cp, .slice Mm nm cm, .int .i64 mi] 25)).alloc (.cells #[.int .i64 l0, .int .i64 l1, .int .i64 l2] 33)) #[.int .i64 m0, .int .i64 m1, .int .i64 m2] 33
  have hB1 : Below W.heap.size W (((W.alloc (.cells #[.slice Mg nmg cmg, .slice Mp np cp, .slice Mm nm cm, .int .i64 mi] 25)).alloc (.cells #[.int .i64 l0, .int .i64 l1, .int .i64 l2] 33)).alloc (.cells #[.int .i64 m0, .int .i64 m1, .int .i64 m2] 33)) := (((Below.refl _ _).alloc (Nat.le_refl _) _).alloc (by simp only [World.size_alloc]; omega) _).alloc (by simp only [World.size_alloc]; omega) _
  simp only [World.size_alloc] at BL1 BR1
  rw [hw1] at BM1 BL1 BR1 hB1
  rw [hb] at BM1 BL1 BR1
  have HW := Lib.hid (And.intro hw1 hb)
  have HA := fun (V : World) => Lib.hid (awake_ok V)
  have HG := Lib.hid (And.intro BM1 (And.intro BL1 (And.intro BR1 (And.intro hB1 (fun (V : World) (h : Below W.heap.size W V) => great_any Mg nmg cmg Mp np cp Mm nm cm mi ps V (hps.below h))))))
  clear hw1 hb BM1 BL1 BR1 hB1 hps
  go_enter Try.func4, Try.ntmps4
  go_wp2_with fail
  rw [HW.out.1, HW.out.2]
  refine (HA _).out.mono ?_
  rintro e w2 ⟨rfl, hb2⟩
  have B2 := HG.out.1.below hb2
  have HB2 := Lib.hid (And.intro B2 (And.intro (HG.out.2.1.below hb2) (And.intro (HG.out.2.2.1.below hb2) (below_next HG.out.2.2.2.1 hb2))))
  have r0 := B2.c 0 _ rfl
  have r1 := B2.c 1 _ rfl
  have r2 := B2.c 2 _ rfl
  have r3 := B2.c 3 _ rfl
  have fr0 := B2.f 0
  have fr1 := B2.f 1
  have fr2 := B2.f 2
  have fr3 := B2.f 3
  have lr := B2.l
  clear B2 hb2
  go_wp2_with fail
  refine (HG.out.2.2.2.2 _ HB2.out.2.2.2).mono ?_
  rintro e w3 ⟨rfl, hb3⟩
  have B3 := HB2.out.1.below hb3
  have L3 := HB2.out.2.1.below hb3
  have R3 := HB2.out.2.2.1.below hb3
  have HB3 := Lib.hid (And.intro B3 (And.intro L3 (And.intro R3 (below_next HB2.out.2.2.2 hb3))))
  clear r0 r1 r2 r3 fr0 fr1 fr2 fr3 lr hb3
  rw [HQ.out]
  have r0 := B3.c 0 _ rfl
  have r1 := B3.c 1 _ rfl
  have r2 := B3.c 2 _ rfl
  have r3 := B3.c 3 _ rfl
  have fr0 := B3.f 0
  have fr1 := B3.f 1
  have fr2 := B3.f 2
  have fr3 := B3.f 3
  have lr := B3.l
  have s0 := L3.c 0 _ rfl
  have s1 := L3.c 1 _ rfl
  have s2 := L3.c 2 _ rfl
  have fs0 := L3.f 0
  have fs1 := L3.f 1
  have fs2 := L3.f 2
  have ls := L3.l
  have t0 := R3.c 0 _ rfl
  have t1 := R3.c 1 _ rfl
  have t2 := R3.c 2 _ rfl
  have ft0 := R3.f 0
  have ft1 := R3.f 1
  have ft2 := R3.f 2
  have lt := R3.l
  clear B3 L3 R3
  go_wp2_with fail
  go_ret
  exact ⟨rfl, HB3.out.2.2.2⟩
set_option maxHeartbeats 1000000 in
theorem out4_7 {Mg : Option Addr} {nmg cmg : Nat} {Mp : Option Addr} {np cp : Nat} {Mm : Option Addr} {nm cm : Nat} {mi : Int} {ps : List Pm} {Aa : Option Addr} {na ca : Nat} {Ab : Option Addr} {ng cb : Nat} {W : World} (i l0 l1 l2 m0 m1 m2 : Int) (hps : PmsAt W Mm nm ps) (hq : greatB nmg np nm ps = true) (h0 : ¬ ((20 : Int) < (na : Int))) (h1 : ¬ ((20 : Int) < (ng : Int))) (h2 : ¬ ((10000 : Int) < (l0 : Int))) (h3 : ¬ ((256 : Int) < (l1 : Int))) (h4 : ¬ ((1024 : Int) < (l2 : Int))) (h5 : ¬ ((m0 : Int) < (0 : Int))) (h6 : ¬ ((10000 : Int) < (m0 : Int))) (h7 : (m1 : Int) < (0 : Int)) :
    Calls Try.prog 4 #[.agg #[.slice Mg nmg cmg, .slice Mp np cp, .slice Mm nm cm, .int .i64 mi], .int .i64 i, .slice Aa na ca, .slice Ab ng cb, .agg #[.int .i64 l0, .int .i64 l1, .int .i64 l2], .agg #[.int .i64 m0, .int .i64 m1, .int .i64 m2]] W fun e w' => e = .returned (.bool true) ∧ Below W.heap.size W w' := by
  have HQ : Hid ((!greatB nmg np nm ps) = false) := Lib.hid (by rw [hq]; rfl)
  have q0 : decide ((20 : Int) < (na : Int)) = false := decide_eq_false h0
  have q1 : decide ((20 : Int) < (ng : Int)) = false := decide_eq_false h1
  have q2 : decide ((10000 : Int) < (l0 : Int)) = false := decide_eq_false h2
  have q3 : decide ((256 : Int) < (l1 : Int)) = false := decide_eq_false h3
  have q4 : decide ((1024 : Int) < (l2 : Int)) = false := decide_eq_false h4
  have q5 : decide ((m0 : Int) < (0 : Int)) = false := decide_eq_false h5
  have q6 : decide ((10000 : Int) < (m0 : Int)) = false := decide_eq_false h6
  have q7 : decide ((m1 : Int) < (0 : Int)) = true := decide_eq_true h7
  clear hq h0 h1 h2 h3 h4 h5 h6 h7
  obtain ⟨w1, hw1⟩ : ∃ V, ((W.alloc (.cells #[.slice Mg nmg cmg, .slice Mp np cp, .slice Mm nm cm, .int .i64 mi] 25)).alloc (.cells #[.int .i64 l0, .int .i64 l1, .int .i64 l2] 33)).alloc (.cells #[.int .i64 m0, .int .i64 m1, .int .i64 m2] 33) = V := ⟨_, rfl⟩
  obtain ⟨b, hb⟩ : ∃ b, W.heap.size = b := ⟨_, rfl⟩
  have BM1 := ((Blk.new W #[.slice Mg nmg cmg, .slice Mp np cp, .slice Mm nm cm, .int .i64 mi] 25).alloc (.cells #[.int .i64 l0, .int .i64 l1, .int .i64 l2] 33)).alloc (.cells #[.int .i64 m0, .int .i64 m1, .int .i64 m2] 33)
  have BL1 := (Blk.new (W.alloc (.cells #[.slice Mg nmg cmg, .slice Mp np cp, .slice Mm nm cm, .int .i64 mi] 25)) #[.int .i64 l0, .int .i64 l1, .int .i64 l2] 33).alloc (.cells #[.int .i64 m0, .int .i64 m1, .int .i64 m2] 33)
  have BR1 := Blk.new ((W.alloc (.cells #[.slice Mg nmg cmg, .slice Mp np cp, .slice Mm nm cm, .int .i64 mi] 25)).alloc (.cells #[.int .i64 l0, .int .i64 l1, .int .i64 l2] 33)) #[.int .i64 m0, .int .i64 m1, .int .i64 m2] 33
  have hB1 : Below W.heap.size W (((W.alloc (.cells #[.slice Mg nmg cmg, .slice Mp np cp, .slice Mm nm cm, .int .i64 mi] 25)).alloc (.cells #[.int .i64 l0, .int .i64 l1, .int .i64 l2] 33)).alloc (.cells #[.int .i64 m0, .int .i64 m1, .int .i64 m2] 33)) := (((Below.refl _ _).alloc (Nat.le_refl _) _).alloc (by simp only [World.size_alloc]; omega) _).alloc (by simp only [World.size_alloc]; omega) _
  simp only [World.size_alloc] at BL1 BR1
  rw [hw1] at BM1 BL1 BR1 hB1
  rw [hb] at BM1 BL1 BR1
  have HW := Lib.hid (And.intro hw1 hb)
  have HA := fun (V : World) => Lib.hid (awake_ok V)
  have HG := Lib.hid (And.intro BM1 (And.intro BL1 (And.intro BR1 (And.intro hB1 (fun (V : World) (h : Below W.heap.size W V) => great_any Mg nmg cmg Mp np cp Mm nm cm mi ps V (hps.below h))))))
  clear hw1 hb BM1 BL1 BR1 hB1 hps
  go_enter Try.func4, Try.ntmps4
  go_wp2_with fail
  rw [HW.out.1, HW.out.2]
  refine (HA _).out.mono ?_
  rintro e w2 ⟨rfl, hb2⟩
  have B2 := HG.out.1.below hb2
  have HB2 := Lib.hid (And.intro B2 (And.intro (HG.out.2.1.below hb2) (And.intro (HG.out.2.2.1.below hb2) (below_next HG.out.2.2.2.1 hb2))))
  have r0 := B2.c 0 _ rfl
  have r1 := B2.c 1 _ rfl
  have r2 := B2.c 2 _ rfl
  have r3 := B2.c 3 _ rfl
  have fr0 := B2.f 0
  have fr1 := B2.f 1
  have fr2 := B2.f 2
  have fr3 := B2.f 3
  have lr := B2.l
  clear B2 hb2
  go_wp2_with fail
  refine (HG.out.2.2.2.2 _ HB2.out.2.2.2).mono ?_
  rintro e w3 ⟨rfl, hb3⟩
  have B3 := HB2.out.1.below hb3
  have L3 := HB2.out.2.1.below hb3
  have R3 := HB2.out.2.2.1.below hb3
  have HB3 := Lib.hid (And.intro B3 (And.intro L3 (And.intro R3 (below_next HB2.out.2.2.2 hb3))))
  clear r0 r1 r2 r3 fr0 fr1 fr2 fr3 lr hb3
  rw [HQ.out]
  have r0 := B3.c 0 _ rfl
  have r1 := B3.c 1 _ rfl
  have r2 := B3.c 2 _ rfl
  have r3 := B3.c 3 _ rfl
  have fr0 := B3.f 0
  have fr1 := B3.f 1
  have fr2 := B3.f 2
  have fr3 := B3.f 3
  have lr := B3.l
  have s0 := L3.c 0 _ rfl
  have s1 := L3.c 1 _ rfl
  have s2 := L3.c 2 _ rfl
  have fs0 := L3.f 0
  have fs1 := L3.f 1
  have fs2 := L3.f 2
  have ls := L3.l
  have t0 := R3.c 0 _ rfl
  have t1 := R3.c 1 _ rfl
  have t2 := R3.c 2 _ rfl
  have ft0 := R3.f 0
  have ft1 := R3.f 1
  have ft2 := R3.f 2
  have lt := R3.l
  clear B3 L3 R3
  go_wp2_with fail
  go_ret
  exact ⟨rfl, HB3.out.2.2.2⟩
set_option maxHeartbeats 1000000 in
theorem out4_8 {Mg : Option Addr} {nmg cmg : Nat} {Mp : Option Addr} {np cp : Nat} {Mm : Option Addr} {nm cm : Nat} {mi : Int} {ps : List Pm} {Aa : Option Addr} {na ca : Nat} {Ab : Option Addr} {ng cb : Nat} {W : World} (i l0 l1 l2 m0 m1 m2 : Int) (hps : PmsAt W Mm nm ps) (hq : greatB nmg np nm ps = true) (h0 : ¬ ((20 : Int) < (na : Int))) (h1 : ¬ ((20 : Int) < (ng : Int))) (h2 : ¬ ((10000 : Int) < (l0 : Int))) (h3 : ¬ ((256 : Int) < (l1 : Int))) (h4 : ¬ ((1024 : Int) < (l2 : Int))) (h5 : ¬ ((m0 : Int) < (0 : Int))) (h6 : ¬ ((10000 : Int) < (m0 : Int))) (h7 : ¬ ((m1 : Int) < (0 : Int))) (h8 : (m2 : Int) < (0 : Int)) :
    Calls Try.prog 4 #[.agg #[.slice Mg nmg cmg, .slice Mp np cp, .slice Mm nm cm, .int .i64 mi], .int .i64 i, .slice Aa na ca, .slice Ab ng cb, .agg #[.int .i64 l0, .int .i64 l1, .int .i64 l2], .agg #[.int .i64 m0, .int .i64 m1, .int .i64 m2]] W fun e w' => e = .returned (.bool true) ∧ Below W.heap.size W w' := by
  have HQ : Hid ((!greatB nmg np nm ps) = false) := Lib.hid (by rw [hq]; rfl)
  have q0 : decide ((20 : Int) < (na : Int)) = false := decide_eq_false h0
  have q1 : decide ((20 : Int) < (ng : Int)) = false := decide_eq_false h1
  have q2 : decide ((10000 : Int) < (l0 : Int)) = false := decide_eq_false h2
  have q3 : decide ((256 : Int) < (l1 : Int)) = false := decide_eq_false h3
  have q4 : decide ((1024 : Int) < (l2 : Int)) = false := decide_eq_false h4
  have q5 : decide ((m0 : Int) < (0 : Int)) = false := decide_eq_false h5
  have q6 : decide ((10000 : Int) < (m0 : Int)) = false := decide_eq_false h6
  have q7 : decide ((m1 : Int) < (0 : Int)) = false := decide_eq_false h7
  have q8 : decide ((m2 : Int) < (0 : Int)) = true := decide_eq_true h8
  clear hq h0 h1 h2 h3 h4 h5 h6 h7 h8
  obtain ⟨w1, hw1⟩ : ∃ V, ((W.alloc (.cells #[.slice Mg nmg cmg, .slice Mp np cp, .slice Mm nm cm, .int .i64 mi] 25)).alloc (.cells #[.int .i64 l0, .int .i64 l1, .int .i64 l2] 33)).alloc (.cells #[.int .i64 m0, .int .i64 m1, .int .i64 m2] 33) = V := ⟨_, rfl⟩
  obtain ⟨b, hb⟩ : ∃ b, W.heap.size = b := ⟨_, rfl⟩
  have BM1 := ((Blk.new W #[.slice Mg nmg cmg, .slice Mp np cp, .slice Mm nm cm, .int .i64 mi] 25).alloc (.cells #[.int .i64 l0, .int .i64 l1, .int .i64 l2] 33)).alloc (.cells #[.int .i64 m0, .int .i64 m1, .int .i64 m2] 33)
  have BL1 := (Blk.new (W.alloc (.cells #[.slice Mg nmg cmg, .slice Mp np cp, .slice Mm nm cm, .int .i64 mi] 25)) #[.int .i64 l0, .int .i64 l1, .int .i64 l2] 33).alloc (.cells #[.int .i64 m0, .int .i64 m1, .int .i64 m2] 33)
  have BR1 := Blk.new ((W.alloc (.cells #[.slice Mg nmg cmg, .slice Mp np cp, .slice Mm nm cm, .int .i64 mi] 25)).alloc (.cells #[.int .i64 l0, .int .i64 l1, .int .i64 l2] 33)) #[.int .i64 m0, .int .i64 m1, .int .i64 m2] 33
  have hB1 : Below W.heap.size W (((W.alloc (.cells #[.slice Mg nmg cmg, .slice Mp np cp, .slice Mm nm cm, .int .i64 mi] 25)).alloc (.cells #[.int .i64 l0, .int .i64 l1, .int .i64 l2] 33)).alloc (.cells #[.int .i64 m0, .int .i64 m1, .int .i64 m2] 33)) := (((Below.refl _ _).alloc (Nat.le_refl _) _).alloc (by simp only [World.size_alloc]; omega) _).alloc (by simp only [World.size_alloc]; omega) _
  simp only [World.size_alloc] at BL1 BR1
  rw [hw1] at BM1 BL1 BR1 hB1
  rw [hb] at BM1 BL1 BR1
  have HW := Lib.hid (And.intro hw1 hb)
  have HA := fun (V : World) => Lib.hid (awake_ok V)
  have HG := Lib.hid (And.intro BM1 (And.intro BL1 (And.intro BR1 (And.intro hB1 (fun (V : World) (h : Below W.heap.size W V) => great_any Mg nmg cmg Mp np cp Mm nm cm mi ps V (hps.below h))))))
  clear hw1 hb BM1 BL1 BR1 hB1 hps
  go_enter Try.func4, Try.ntmps4
  go_wp2_with fail
  rw [HW.out.1, HW.out.2]
  refine (HA _).out.mono ?_
  rintro e w2 ⟨rfl, hb2⟩
  have B2 := HG.out.1.below hb2
  have HB2 := Lib.hid (And.intro B2 (And.intro (HG.out.2.1.below hb2) (And.intro (HG.out.2.2.1.below hb2) (below_next HG.out.2.2.2.1 hb2))))
  have r0 := B2.c 0 _ rfl
  have r1 := B2.c 1 _ rfl
  have r2 := B2.c 2 _ rfl
  have r3 := B2.c 3 _ rfl
  have fr0 := B2.f 0
  have fr1 := B2.f 1
  have fr2 := B2.f 2
  have fr3 := B2.f 3
  have lr := B2.l
  clear B2 hb2
  go_wp2_with fail
  refine (HG.out.2.2.2.2 _ HB2.out.2.2.2).mono ?_
  rintro e w3 ⟨rfl, hb3⟩
  have B3 := HB2.out.1.below hb3
  have L3 := HB2.out.2.1.below hb3
  have R3 := HB2.out.2.2.1.below hb3
  have HB3 := Lib.hid (And.intro B3 (And.intro L3 (And.intro R3 (below_next HB2.out.2.2.2 hb3))))
  clear r0 r1 r2 r3 fr0 fr1 fr2 fr3 lr hb3
  rw [HQ.out]
  have r0 := B3.c 0 _ rfl
  have r1 := B3.c 1 _ rfl
  have r2 := B3.c 2 _ rfl
  have r3 := B3.c 3 _ rfl
  have fr0 := B3.f 0
  have fr1 := B3.f 1
  have fr2 := B3.f 2
  have fr3 := B3.f 3
  have lr := B3.l
  have s0 := L3.c 0 _ rfl
  have s1 := L3.c 1 _ rfl
  have s2 := L3.c 2 _ rfl
  have fs0 := L3.f 0
  have fs1 := L3.f 1
  have fs2 := L3.f 2
  have ls := L3.l
  have t0 := R3.c 0 _ rfl
  have t1 := R3.c 1 _ rfl
  have t2 := R3.c 2 _ rfl
  have ft0 := R3.f 0
  have ft1 := R3.f 1
  have ft2 := R3.f 2
  have lt := R3.l
  clear B3 L3 R3
  go_wp2_with fail
  go_ret
  exact ⟨rfl, HB3.out.2.2.2⟩

theorem TrapsOk.len4 {r : Rr} {gs : List V} (h : TrapsOk r gs) : r.1.length ≤ gs.length := by
  by_cases h0 : r.2.2.2 = 0
  · by_cases h1 : r.2.1.1 = 0
    · have e := congrArg List.length (h.fine h0 h1).1
      rw [List.length_map, List.length_map] at e
      omega
    · rw [(h.trap h0 h1).1]
      exact Nat.le_refl _
  · rw [(h.bad h0).1]
    exact Nat.zero_le _
theorem more_ok {m : Md} {i : Int} {vs gs : List V} {R : List V} {o0 o1 o2 o3 u0 u1 u2 l0 l1 l2 : Int} (hr : runR m ⟨l0, l1, l2⟩ i vs gs = (R, (o0, o1, o2, o3), (u0, u1, u2), 0)) (hl0 : l0 ≤ 20000) :
    (1 ≤ u0 ∧ u0 ≤ l0) ∧ (0 ≤ u1 ∧ u1 ≤ l1) ∧ (0 ≤ u2 ∧ u2 ≤ l2) ∧ (0 ≤ l0 ∧ (0 ≤ l1 ∧ l1 ≤ 256) ∧ (0 ≤ l2 ∧ l2 ≤ 1024)) ∧ ∀ f s h, l0 ≤ f → f ≤ 20000 → l1 ≤ s → s ≤ 256 → l2 ≤ h → h ≤ 1024 → runR m ⟨f, s, h⟩ i vs gs = (R, (o0, o1, o2, o3), (u0, u1, u2), 0) := by
  have T := took_ok (m := m) (l := ⟨l0, l1, l2⟩) (i := i) (vs := vs) (gs := gs) (by rw [hr]) hl0
  rw [hr] at T
  dsimp only at T
  obtain ⟨h1, h2, h3, h4, h5, -⟩ := T
  have hl := lim_of h4
  dsimp only at hl
  refine ⟨h1, h2, h3, ⟨hl.1.1, hl.2.1, hl.2.2⟩, fun f s h f1 f2 s1 s2 u1 u2 => h5 _ ?_ ?_ ?_ ?_⟩
  · unfold limB inB
    simp only [Bool.and_eq_true, decide_eq_true_eq]
    exact ⟨⟨by omega, by omega⟩, ⟨by omega, s2⟩, by omega, u2⟩
  · show _ ≤ f
    omega
  · show _ ≤ s
    omega
  · show _ ≤ h
    omega
theorem w64_ok (x : Int) (h : -1000000 ≤ x ∧ x ≤ 1000000) : wrap64 x = x := by
  unfold wrap64
  omega
set_option pp.maxSteps 1000000 in
set_option pp.deepTerms true in
set_option maxHeartbeats 8000000 in
theorem in4 {Mg : Option Addr} {nmg cmg : Nat} {Mp : Option Addr} {np cp : Nat} {Mm : Option Addr} {nm cm : Nat} {mi : Int} {ps : List Pm} {Aa : Option Addr} {na ca : Nat} {Ab : Option Addr} {ng cb : Nat} {W : World} (i l0 l1 l2 m0 m1 m2 : Int) {m : Md} {vs gs : List V} (hps : PmsAt W Mm nm ps) (hq : greatB nmg np nm ps = true) (hna : na ≤ 20) (hng : ng ≤ 20) (h0 : ¬ ((20 : Int) < (na : Int))) (h1 : ¬ ((20 : Int) < (ng : Int))) (h2 : ¬ ((10000 : Int) < (l0 : Int))) (h3 : ¬ ((256 : Int) < (l1 : Int))) (h4 : ¬ ((1024 : Int) < (l2 : Int))) (h5 : ¬ ((m0 : Int) < (0 : Int))) (h6 : ¬ ((10000 : Int) < (m0 : Int))) (h7 : ¬ ((m1 : Int) < (0 : Int))) (h8 : ¬ ((m2 : Int) < (0 : Int))) (hI : Inp W (.agg #[.slice Mg nmg cmg, .slice Mp np cp, .slice Mm nm cm, .int .i64 mi]) Aa na Ab ng m vs gs) :
    Calls Try.prog 4 #[.agg #[.slice Mg nmg cmg, .slice Mp np cp, .slice Mm nm cm, .int .i64 mi], .int .i64 i, .slice Aa na ca, .slice Ab ng cb, .agg #[.int .i64 l0, .int .i64 l1, .int .i64 l2], .agg #[.int .i64 m0, .int .i64 m1, .int .i64 m2]] W fun e w' => e = .returned (.bool true) ∧ Below W.heap.size W w' := by
  have HQ : Hid ((!greatB nmg np nm ps) = false) := Lib.hid (by rw [hq]; rfl)
  obtain ⟨r, hr⟩ : ∃ r, runR m ⟨l0, l1, l2⟩ i vs gs = r := ⟨_, rfl⟩
  have HT : Hid (TrapsOk r gs) := Lib.hid (by rw [← hr]; exact traps_ok _ _ _ _ _)
  obtain ⟨R, ⟨o0, o1, o2, o3⟩, ⟨u0, u1, u2⟩, ee⟩ := r
  have HLEN : Hid (R.length ≤ 3000) := Lib.hid (by have e1 : R.length ≤ gs.length := HT.out.len4; have e2 := hI.vg.1; omega)
  have HI := Lib.hid hI
  have HR := Lib.hid hr
  have HC := Lib.hid (And.intro h2 (And.intro h5 (And.intro h6 (And.intro h7 h8))))
  have q0 : decide ((20 : Int) < (na : Int)) = false := decide_eq_false h0
  have q1 : decide ((20 : Int) < (ng : Int)) = false := decide_eq_false h1
  have q2 : decide ((10000 : Int) < (l0 : Int)) = false := decide_eq_false h2
  have q3 : decide ((256 : Int) < (l1 : Int)) = false := decide_eq_false h3
  have q4 : decide ((1024 : Int) < (l2 : Int)) = false := decide_eq_false h4
  have q5 : decide ((m0 : Int) < (0 : Int)) = false := decide_eq_false h5
  have q6 : decide ((10000 : Int) < (m0 : Int)) = false := decide_eq_false h6
  have q7 : decide ((m1 : Int) < (0 : Int)) = false := decide_eq_false h7
  have q8 : decide ((m2 : Int) < (0 : Int)) = false := decide_eq_false h8
  clear hq hI hna hng hr HT h0 h1 h2 h3 h4 h5 h6 h7 h8
  obtain ⟨w1, hw1⟩ : ∃ V, ((W.alloc (.cells #[.slice Mg nmg cmg, .slice Mp np cp, .slice Mm nm cm, .int .i64 mi] 25)).alloc (.cells #[.int .i64 l0, .int .i64 l1, .int .i64 l2] 33)).alloc (.cells #[.int .i64 m0, .int .i64 m1, .int .i64 m2] 33) = V := ⟨_, rfl⟩
  obtain ⟨b, hb⟩ : ∃ b, W.heap.size = b := ⟨_, rfl⟩
  have BM1 := ((Blk.new W #[.slice Mg nmg cmg, .slice Mp np cp, .slice Mm nm cm, .int .i64 mi] 25).alloc (.cells #[.int .i64 l0, .int .i64 l1, .int .i64 l2] 33)).alloc (.cells #[.int .i64 m0, .int .i64 m1, .int .i64 m2] 33)
  have BL1 := (Blk.new (W.alloc (.cells #[.slice Mg nmg cmg, .slice Mp np cp, .slice Mm nm cm, .int .i64 mi] 25)) #[.int .i64 l0, .int .i64 l1, .int .i64 l2] 33).alloc (.cells #[.int .i64 m0, .int .i64 m1, .int .i64 m2] 33)
  have BR1 := Blk.new ((W.alloc (.cells #[.slice Mg nmg cmg, .slice Mp np cp, .slice Mm nm cm, .int .i64 mi] 25)).alloc (.cells #[.int .i64 l0, .int .i64 l1, .int .i64 l2] 33)) #[.int .i64 m0, .int .i64 m1, .int .i64 m2] 33
  have hB1 : Below W.heap.size W (((W.alloc (.cells #[.slice Mg nmg cmg, .slice Mp np cp, .slice Mm nm cm, .int .i64 mi] 25)).alloc (.cells #[.int .i64 l0, .int .i64 l1, .int .i64 l2] 33)).alloc (.cells #[.int .i64 m0, .int .i64 m1, .int .i64 m2] 33)) := (((Below.refl _ _).alloc (Nat.le_refl _) _).alloc (by simp only [World.size_alloc]; omega) _).alloc (by simp only [World.size_alloc]; omega) _
  simp only [World.size_alloc] at BL1 BR1
  rw [hw1] at BM1 BL1 BR1 hB1
  rw [hb] at BM1 BL1 BR1
  have HW := Lib.hid (And.intro hw1 hb)
  have HA := fun (V : World) => Lib.hid (awake_ok V)
  have HG := Lib.hid (And.intro BM1 (And.intro BL1 (And.intro BR1 (And.intro hB1 (fun (V : World) (h : Below W.heap.size W V) => great_any Mg nmg cmg Mp np cp Mm nm cm mi ps V (hps.below h))))))
  clear hw1 hb BM1 BL1 BR1 hB1 hps
  go_enter Try.func4, Try.ntmps4
  go_wp2_with fail
  rw [HW.out.1, HW.out.2]
  refine (HA _).out.mono ?_
  rintro e w2 ⟨rfl, hb2⟩
  have B2 := HG.out.1.below hb2
  have HB2 := Lib.hid (And.intro B2 (And.intro (HG.out.2.1.below hb2) (And.intro (HG.out.2.2.1.below hb2) (below_next HG.out.2.2.2.1 hb2))))
  have r0 := B2.c 0 _ rfl
  have r1 := B2.c 1 _ rfl
  have r2 := B2.c 2 _ rfl
  have r3 := B2.c 3 _ rfl
  have fr0 := B2.f 0
  have fr1 := B2.f 1
  have fr2 := B2.f 2
  have fr3 := B2.f 3
  have lr := B2.l
  clear B2 hb2
  go_wp2_with fail
  refine (HG.out.2.2.2.2 _ HB2.out.2.2.2).mono ?_
  rintro e w3 ⟨rfl, hb3⟩
  have B3 := HB2.out.1.below hb3
  have L3 := HB2.out.2.1.below hb3
  have R3 := HB2.out.2.2.1.below hb3
  have HB3 := Lib.hid (And.intro B3 (And.intro L3 (And.intro R3 (below_next HB2.out.2.2.2 hb3))))
  clear r0 r1 r2 r3 fr0 fr1 fr2 fr3 lr hb3
  rw [HQ.out]
  have r0 := B3.c 0 _ rfl
  have r1 := B3.c 1 _ rfl
  have r2 := B3.c 2 _ rfl
  have r3 := B3.c 3 _ rfl
  have fr0 := B3.f 0
  have fr1 := B3.f 1
  have fr2 := B3.f 2
  have fr3 := B3.f 3
  have lr := B3.l
  have s0 := L3.c 0 _ rfl
  have s1 := L3.c 1 _ rfl
  have s2 := L3.c 2 _ rfl
  have fs0 := L3.f 0
  have fs1 := L3.f 1
  have fs2 := L3.f 2
  have ls := L3.l
  have t0 := R3.c 0 _ rfl
  have t1 := R3.c 1 _ rfl
  have t2 := R3.c 2 _ rfl
  have ft0 := R3.f 0
  have ft1 := R3.f 1
  have ft2 := R3.f 2
  have lt := R3.l
  clear B3 L3 R3
  have HRUN1 : Hid (Calls Try.prog 8 #[.agg #[.slice Mg nmg cmg, .slice Mp np cp, .slice Mm nm cm, .int .i64 mi], .int .i64 i, .slice Aa na ca, .slice Ab ng cb, .agg #[.int .i64 l0, .int .i64 l1, .int .i64 l2]] w3 fun e V' => RunTo w3 (R, (o0, o1, o2, o3), (u0, u1, u2), ee) e V') := Lib.hid (by
    have k := HI.out.calls (ca := ca) (cb := cb) i ⟨l0, l1, l2⟩ (by have := HC.out.1; show l0 ≤ 20000; omega) w3 (HB3.out.2.2.2)
    rw [HR.out] at k
    exact k)
  go_wp2_with fail
  refine HRUN1.out.mono ?_
  rintro e w4 ⟨A1, k1, rfl, hb, hg⟩
  dsimp only [rtup, oagg, cagg]
  have hbA : Below w4.heap.size w4 ((w4.alloc (.cells #[.int .i64 o0, .int .u8 o1, .int .i64 o2, .int .i64 o3] 31)).alloc (.cells #[.int .i64 u0, .int .i64 u1, .int .i64 u2] 33)) := ((Below.refl _ _).alloc (Nat.le_refl _) (.cells #[.int .i64 o0, .int .u8 o1, .int .i64 o2, .int .i64 o3] 31)).alloc (by simp only [World.size_alloc]; omega) (.cells #[.int .i64 u0, .int .i64 u1, .int .i64 u2] 33)
  have bm := ((HB3.out.1).below hb).below hbA
  have bl := ((HB3.out.2.1).below hb).below hbA
  have br := ((HB3.out.2.2.1).below hb).below hbA
  have hBn := below_next (below_next (HB3.out.2.2.2) hb) hbA
  have hgn := hg.below hbA
  have BO := (Blk.new w4 #[.int .i64 o0, .int .u8 o1, .int .i64 o2, .int .i64 o3] 31).alloc (.cells #[.int .i64 u0, .int .i64 u1, .int .i64 u2] 33)
  have BC := Blk.new (w4.alloc (.cells #[.int .i64 o0, .int .u8 o1, .int .i64 o2, .int .i64 o3] 31)) #[.int .i64 u0, .int .i64 u1, .int .i64 u2] 33
  have hsz := hb.size
  simp only [World.size_alloc] at BC
  obtain ⟨w5, hw5⟩ : ∃ V, (w4.alloc (.cells #[.int .i64 o0, .int .u8 o1, .int .i64 o2, .int .i64 o3] 31)).alloc (.cells #[.int .i64 u0, .int .i64 u1, .int .i64 u2] 33) = V := ⟨_, rfl⟩
  rw [hw5] at hBn hgn BO BC bm bl br
  have Hw5 := Lib.hid hw5
  clear hw5 hbA hb hg
  have H5 := Lib.hid (And.intro bm (And.intro bl (And.intro br (And.intro hBn (And.intro hgn (And.intro BO (BC)))))))
  clear bl br hBn hgn BO BC hsz HRUN1 r0 r1 r2 r3 fr0 fr1 fr2 fr3 lr s0 s1 s2 fs0 fs1 fs2 ls t0 t1 t2 ft0 ft1 ft2 lt
  have r0 := bm.c 0 _ rfl
  have r1 := bm.c 1 _ rfl
  have r2 := bm.c 2 _ rfl
  have r3 := bm.c 3 _ rfl
  have fr0 := bm.f 0
  have fr1 := bm.f 1
  have fr2 := bm.f 2
  have fr3 := bm.f 3
  have lr := bm.l
  have L5 := H5.out.2.1
  have s0 := L5.c 0 _ rfl
  have s1 := L5.c 1 _ rfl
  have s2 := L5.c 2 _ rfl
  have fs0 := L5.f 0
  have fs1 := L5.f 1
  have fs2 := L5.f 2
  have ls := L5.l
  clear L5 bm
  go_upto_region 6 with fail
  rw [Hw5.out]
  have HRUN2 : Hid (Calls Try.prog 8 #[.agg #[.slice Mg nmg cmg, .slice Mp np cp, .slice Mm nm cm, .int .i64 mi], .int .i64 i, .slice Aa na ca, .slice Ab ng cb, .agg #[.int .i64 l0, .int .i64 l1, .int .i64 l2]] w5 fun e V' => RunTo w5 (R, (o0, o1, o2, o3), (u0, u1, u2), ee) e V') := Lib.hid (by
    have k := HI.out.calls (ca := ca) (cb := cb) i ⟨l0, l1, l2⟩ (by have := HC.out.1; show l0 ≤ 20000; omega) w5 (H5.out.2.2.2.1)
    rw [HR.out] at k
    exact k)
  go_wp2_with fail
  refine HRUN2.out.mono ?_
  rintro e w6 ⟨A2, k2, rfl, hb, hg⟩
  dsimp only [rtup, oagg, cagg]
  have hbA : Below w6.heap.size w6 ((w6.alloc (.cells #[.int .i64 o0, .int .u8 o1, .int .i64 o2, .int .i64 o3] 31)).alloc (.cells #[.int .i64 u0, .int .i64 u1, .int .i64 u2] 33)) := ((Below.refl _ _).alloc (Nat.le_refl _) (.cells #[.int .i64 o0, .int .u8 o1, .int .i64 o2, .int .i64 o3] 31)).alloc (by simp only [World.size_alloc]; omega) (.cells #[.int .i64 u0, .int .i64 u1, .int .i64 u2] 33)
  have bm := ((H5.out.1).below hb).below hbA
  have bl := ((H5.out.2.1).below hb).below hbA
  have br := ((H5.out.2.2.1).below hb).below hbA
  have bo := ((H5.out.2.2.2.2.2.1).below hb).below hbA
  have bc := ((H5.out.2.2.2.2.2.2).below hb).below hbA
  have hg1 := ((H5.out.2.2.2.2.1).below hb).below hbA
  have hBn := below_next (below_next (H5.out.2.2.2.1) hb) hbA
  have hgn := hg.below hbA
  have BO := (Blk.new w6 #[.int .i64 o0, .int .u8 o1, .int .i64 o2, .int .i64 o3] 31).alloc (.cells #[.int .i64 u0, .int .i64 u1, .int .i64 u2] 33)
  have BC := Blk.new (w6.alloc (.cells #[.int .i64 o0, .int .u8 o1, .int .i64 o2, .int .i64 o3] 31)) #[.int .i64 u0, .int .i64 u1, .int .i64 u2] 33
  have hsz := hb.size
  simp only [World.size_alloc] at BC
  obtain ⟨w7, hw7⟩ : ∃ V, (w6.alloc (.cells #[.int .i64 o0, .int .u8 o1, .int .i64 o2, .int .i64 o3] 31)).alloc (.cells #[.int .i64 u0, .int .i64 u1, .int .i64 u2] 33) = V := ⟨_, rfl⟩
  rw [hw7] at hBn hgn BO BC bm bl br bo bc hg1
  have Hw7 := Lib.hid hw7
  clear hw7 hbA hb hg
  have HS : Hid (Calls Try.prog 10 #[.slice A1 R.length k1, .slice A2 R.length k2] w7 fun e w' => e = .returned (.bool true) ∧ Below w7.heap.size w7 w') := Lib.hid ((same_any A1 A2 R.length k1 R.length k2 R R w7 hg1.vs hgn.vs HLEN.out HLEN.out).mono (fun e w' h => ⟨by rw [h.1, decide_eq_true rfl], h.2⟩))
  have H7 := Lib.hid (And.intro bm (And.intro bl (And.intro br (And.intro hBn (And.intro hg1 (And.intro bo (And.intro bc (And.intro BO (BC)))))))))
  clear bm bl br hBn hg1 bo bc BO BC hgn hsz HRUN2 r0 r1 r2 r3 fr0 fr1 fr2 fr3 lr s0 s1 s2 fs0 fs1 fs2 ls
  go_upto_region 7 with fail
  rw [Hw7.out]
  go_wp2_with fail
  refine HS.out.mono ?_
  rintro e w8 ⟨rfl, hb8⟩
  have bm8 := (H7.out.1).below hb8
  have bl8 := (H7.out.2.1).below hb8
  have br8 := (H7.out.2.2.1).below hb8
  have hg8 := (H7.out.2.2.2.2.1).below hb8
  have bo8 := (H7.out.2.2.2.2.2.1).below hb8
  have bc8 := (H7.out.2.2.2.2.2.2.1).below hb8
  have BO8 := (H7.out.2.2.2.2.2.2.2.1).below hb8
  have BC8 := (H7.out.2.2.2.2.2.2.2.2).below hb8
  have hB8 := below_next (H7.out.2.2.2.1) hb8
  have H8 := Lib.hid (And.intro bm8 (And.intro bl8 (And.intro br8 (And.intro hB8 (And.intro hg8 (And.intro bo8 (bc8)))))))
  have s0 := bl8.c 0 _ rfl
  have s1 := bl8.c 1 _ rfl
  have s2 := bl8.c 2 _ rfl
  have fs0 := bl8.f 0
  have fs1 := bl8.f 1
  have fs2 := bl8.f 2
  have ls := bl8.l
  have t0 := br8.c 0 _ rfl
  have t1 := br8.c 1 _ rfl
  have t2 := br8.c 2 _ rfl
  have ft0 := br8.f 0
  have ft1 := br8.f 1
  have ft2 := br8.f 2
  have lt := br8.l
  have xa0 := bo8.c 0 _ rfl
  have xa1 := bo8.c 1 _ rfl
  have xa2 := bo8.c 2 _ rfl
  have xa3 := bo8.c 3 _ rfl
  have fxa0 := bo8.f 0
  have fxa1 := bo8.f 1
  have fxa2 := bo8.f 2
  have fxa3 := bo8.f 3
  have lxa := bo8.l
  have xb0 := bc8.c 0 _ rfl
  have xb1 := bc8.c 1 _ rfl
  have xb2 := bc8.c 2 _ rfl
  have fxb0 := bc8.f 0
  have fxb1 := bc8.f 1
  have fxb2 := bc8.f 2
  have lxb := bc8.l
  have ya0 := BO8.c 0 _ rfl
  have ya1 := BO8.c 1 _ rfl
  have ya2 := BO8.c 2 _ rfl
  have ya3 := BO8.c 3 _ rfl
  have fya0 := BO8.f 0
  have fya1 := BO8.f 1
  have fya2 := BO8.f 2
  have fya3 := BO8.f 3
  have lya := BO8.l
  have yb0 := BC8.c 0 _ rfl
  have yb1 := BC8.c 1 _ rfl
  have yb2 := BC8.c 2 _ rfl
  have fyb0 := BC8.f 0
  have fyb1 := BC8.f 1
  have fyb2 := BC8.f 2
  have lyb := BC8.l
  clear bm8 bl8 br8 hB8 hg8 bo8 bc8 BO8 BC8 hb8 HS
  have e1 : ∀ W, (binOp .neq 31 (.agg #[.int .i64 o0, .int .u8 o1, .int .i64 o2, .int .i64 o3]) (.agg #[.int .i64 o0, .int .u8 o1, .int .i64 o2, .int .i64 o3])).run Try.prog W = .ok (.bool false) W := fun W => out_neq o0 o1 o2 o3 o0 o1 o2 o3 W true (decide_eq_true rfl)
  have e2 : ∀ W, (binOp .neq 33 (.agg #[.int .i64 u0, .int .i64 u1, .int .i64 u2]) (.agg #[.int .i64 u0, .int .i64 u1, .int .i64 u2])).run Try.prog W = .ok (.bool false) W := fun W => cert_neq u0 u1 u2 u0 u1 u2 W true (decide_eq_true rfl)
  by_cases h0 : ee = 0
  · subst h0
    obtain ⟨hu0, hu1, hu2, hl, hsame⟩ := more_ok HR.out (by have := HC.out.1; omega)
    have a1 : decide (l0 < u0) = false := by rw [decide_eq_false_iff_not]; omega
    have a2 : decide (l1 < u1) = false := by rw [decide_eq_false_iff_not]; omega
    have a3 : decide (l2 < u2) = false := by rw [decide_eq_false_iff_not]; omega
    have a4 : decide (u0 < 1) = false := by rw [decide_eq_false_iff_not]; omega
    obtain ⟨f, hf⟩ : ∃ f, l0 + m0 = f := ⟨_, rfl⟩
    have hfr : l0 ≤ f ∧ f ≤ 20000 := by have := HC.out; omega
    have hwf : wrap64 f = f := w64_ok f (by omega)
    obtain ⟨d1, hd1⟩ : ∃ d, 256 - l1 = d := ⟨_, rfl⟩
    have hwd1 : wrap64 d1 = d1 := w64_ok d1 (by omega)
    obtain ⟨d2, hd2⟩ : ∃ d, 1024 - l2 = d := ⟨_, rfl⟩
    have hwd2 : wrap64 d2 = d2 := w64_ok d2 (by omega)
    have HF := Lib.hid (And.intro hfr (And.intro hl (And.intro hd1 (And.intro hd2 hsame))))
    clear hu0 hu1 hu2 hl hsame hfr
    go_upto_region 14 with fail
    obtain ⟨w9, hw9⟩ : ∃ V, w8.alloc (.cells #[.int .i64 f, .int .i64 256, .int .i64 1024] 33) = V := ⟨_, rfl⟩
    obtain ⟨g, hg⟩ : ∃ g, w8.heap.size = g := ⟨_, rfl⟩
    have bm9 := (H8.out.1).alloc (.cells #[.int .i64 f, .int .i64 256, .int .i64 1024] 33)
    have bl9 := (H8.out.2.1).alloc (.cells #[.int .i64 f, .int .i64 256, .int .i64 1024] 33)
    have br9 := (H8.out.2.2.1).alloc (.cells #[.int .i64 f, .int .i64 256, .int .i64 1024] 33)
    have bo9 := (H8.out.2.2.2.2.2.1).alloc (.cells #[.int .i64 f, .int .i64 256, .int .i64 1024] 33)
    have bc9 := (H8.out.2.2.2.2.2.2).alloc (.cells #[.int .i64 f, .int .i64 256, .int .i64 1024] 33)
    have hg9 := (H8.out.2.2.2.2.1).below ((Below.refl _ _).alloc (Nat.le_refl _) (.cells #[.int .i64 f, .int .i64 256, .int .i64 1024] 33))
    have hB9 := (H8.out.2.2.2.1).alloc (H8.out.2.2.2.1).size (.cells #[.int .i64 f, .int .i64 256, .int .i64 1024] 33)
    have BG := Blk.new w8 #[.int .i64 f, .int .i64 256, .int .i64 1024] 33
    have hA : R ≠ [] → A1 ≠ some ⟨w8.heap.size, 0, none⟩ := fun e => (H8.out.2.2.2.2.1).new e
    have hlt : b < w8.heap.size ∧ b + 1 < w8.heap.size ∧ b + 1 + 1 < w8.heap.size ∧ w4.heap.size < w8.heap.size ∧ w4.heap.size + 1 < w8.heap.size := ⟨(H8.out.1).l, (H8.out.2.1).l, (H8.out.2.2.1).l, (H8.out.2.2.2.2.2.1).l, (H8.out.2.2.2.2.2.2).l⟩
    have hWg : W.heap.size ≤ w8.heap.size := (H8.out.2.2.2.1).size
    rw [hw9] at bm9 bl9 br9 bo9 bc9 hg9 hB9 BG
    rw [hg] at hA hlt hWg BG
    rw [hw9, hg]
    have HN := Lib.hid (And.intro hA (And.intro hlt hWg))
    have H9 := Lib.hid (And.intro bm9 (And.intro bl9 (And.intro br9 (And.intro hB9 (And.intro hg9 (And.intro bo9 (And.intro bc9 (BG))))))))
    clear s0 s1 s2 fs0 fs1 fs2 ls t0 t1 t2 ft0 ft1 ft2 lt xa0 xa1 xa2 xa3 fxa0 fxa1 fxa2 fxa3 lxa xb0 xb1 xb2 fxb0 fxb1 fxb2 lxb ya0 ya1 ya2 ya3 fya0 fya1 fya2 fya3 lya yb0 yb1 yb2 fyb0 fyb1 fyb2 lyb hw9 hg hA hlt hWg e1 e2
    have s0 := bl9.c 0 _ rfl
    have s1 := bl9.c 1 _ rfl
    have s2 := bl9.c 2 _ rfl
    have fs0 := bl9.f 0
    have fs1 := bl9.f 1
    have fs2 := bl9.f 2
    have ls := bl9.l
    have t0 := br9.c 0 _ rfl
    have t1 := br9.c 1 _ rfl
    have t2 := br9.c 2 _ rfl
    have ft0 := br9.f 0
    have ft1 := br9.f 1
    have ft2 := br9.f 2
    have lt := br9.l
    have z0 := BG.c 0 _ rfl
    have z1 := BG.c 1 _ rfl
    have z2 := BG.c 2 _ rfl
    have fz0 := BG.f 0
    have fz1 := BG.f 1
    have fz2 := BG.f 2
    have lz := BG.l
    clear bm9 bl9 br9 hB9 hg9 bo9 bc9 BG
    by_cases hs : m1 < d1
    · have a5 : decide (m1 < d1) = true := decide_eq_true hs
      obtain ⟨Ss, hSs⟩ : ∃ x, l1 + m1 = x := ⟨_, rfl⟩
      have HSR : Hid (l1 ≤ Ss ∧ Ss ≤ 256) := Lib.hid (by have := HF.out.2.1; have := HF.out.2.2.1; have := HC.out; omega)
      have hws : wrap64 Ss = Ss := w64_ok Ss (by have := HSR.out; have := HF.out.2.1; omega)
      clear hs
      go_upto_region 16 with fail
      have bmv := (H9.out.1).other (b' := g) (by have := HN.out.2.1.1; omega) 1 (.int .i64 Ss)
      have blv := (H9.out.2.1).other (b' := g) (by have := HN.out.2.1.2.1; omega) 1 (.int .i64 Ss)
      have brv := (H9.out.2.2.1).other (b' := g) (by have := HN.out.2.1.2.2.1; omega) 1 (.int .i64 Ss)
      have bov := (H9.out.2.2.2.2.2.1).other (b' := g) (by have := HN.out.2.1.2.2.2.1; omega) 1 (.int .i64 Ss)
      have bcv := (H9.out.2.2.2.2.2.2.1).other (b' := g) (by have := HN.out.2.1.2.2.2.2; omega) 1 (.int .i64 Ss)
      have hgv := (H9.out.2.2.2.2.1).other HN.out.1 1 (.int .i64 Ss)
      have hBv := Blk.below_set (H9.out.2.2.2.1) HN.out.2.2 1 (.int .i64 Ss)
      have BGv := (H9.out.2.2.2.2.2.2.2).set (j := 1) rfl (.int .i64 Ss)
      obtain ⟨wv, hwv⟩ : ∃ V, w9.setCell ⟨g, 1, none⟩ (.int .i64 Ss) = V := ⟨_, rfl⟩
      rw [hwv]
      rw [hwv] at bmv blv brv hBv hgv bov bcv BGv
      have Hv := Lib.hid (And.intro bmv (And.intro blv (And.intro brv (And.intro hBv (And.intro hgv (And.intro bov (And.intro bcv (BGv))))))))
      clear hwv s0 s1 s2 fs0 fs1 fs2 ls t0 t1 t2 ft0 ft1 ft2 lt z0 z1 z2 fz0 fz1 fz2 lz
      have s0 := blv.c 0 _ rfl
      have s1 := blv.c 1 _ rfl
      have s2 := blv.c 2 _ rfl
      have fs0 := blv.f 0
      have fs1 := blv.f 1
      have fs2 := blv.f 2
      have ls := blv.l
      have t0 := brv.c 0 _ rfl
      have t1 := brv.c 1 _ rfl
      have t2 := brv.c 2 _ rfl
      have ft0 := brv.f 0
      have ft1 := brv.f 1
      have ft2 := brv.f 2
      have lt := brv.l
      have z0 := BGv.c 0 _ rfl
      have z1 := BGv.c 1 _ rfl
      have z2 := BGv.c 2 _ rfl
      have fz0 := BGv.f 0
      have fz1 := BGv.f 1
      have fz2 := BGv.f 2
      have lz := BGv.l
      clear bmv blv brv hBv hgv bov bcv BGv
      by_cases hh : m2 < d2
      · have a6 : decide (m2 < d2) = true := decide_eq_true hh
        obtain ⟨Hh, hHh⟩ : ∃ x, l2 + m2 = x := ⟨_, rfl⟩
        have HHR : Hid (l2 ≤ Hh ∧ Hh ≤ 1024) := Lib.hid (by have := HF.out.2.1; have := HF.out.2.2.2.1; have := HC.out; have := HSR.out; omega)
        have hwh : wrap64 Hh = Hh := w64_ok Hh (by have := HHR.out; have := HF.out.2.1; omega)
        clear hh
        go_upto_region 18 with fail
        have bmt := (Hv.out.1).other (b' := g) (by have := HN.out.2.1.1; omega) 2 (.int .i64 Hh)
        have blt := (Hv.out.2.1).other (b' := g) (by have := HN.out.2.1.2.1; omega) 2 (.int .i64 Hh)
        have brt := (Hv.out.2.2.1).other (b' := g) (by have := HN.out.2.1.2.2.1; omega) 2 (.int .i64 Hh)
        have bot := (Hv.out.2.2.2.2.2.1).other (b' := g) (by have := HN.out.2.1.2.2.2.1; omega) 2 (.int .i64 Hh)
        have bct := (Hv.out.2.2.2.2.2.2.1).other (b' := g) (by have := HN.out.2.1.2.2.2.2; omega) 2 (.int .i64 Hh)
        have hgt := (Hv.out.2.2.2.2.1).other HN.out.1 2 (.int .i64 Hh)
        have hBt := Blk.below_set (Hv.out.2.2.2.1) HN.out.2.2 2 (.int .i64 Hh)
        have BGt := (Hv.out.2.2.2.2.2.2.2).set (j := 2) rfl (.int .i64 Hh)
        obtain ⟨wt, hwt⟩ : ∃ V, wv.setCell ⟨g, 2, none⟩ (.int .i64 Hh) = V := ⟨_, rfl⟩
        rw [hwt]
        rw [hwt] at bmt blt brt hBt hgt bot bct BGt
        have Ht := Lib.hid (And.intro bmt (And.intro blt (And.intro brt (And.intro hBt (And.intro hgt (And.intro bot (And.intro bct (BGt))))))))
        clear hwt bmt blt brt hBt hgt bot bct BGt s0 s1 s2 fs0 fs1 fs2 ls t0 t1 t2 ft0 ft1 ft2 lt z0 z1 z2 fz0 fz1 fz2 lz
        have HRUN3 : Hid (Calls Try.prog 8 #[.agg #[.slice Mg nmg cmg, .slice Mp np cp, .slice Mm nm cm, .int .i64 mi], .int .i64 i, .slice Aa na ca, .slice Ab ng cb, .agg #[.int .i64 f, .int .i64 Ss, .int .i64 Hh]] wt fun e V' => RunTo wt (R, (o0, o1, o2, o3), (u0, u1, u2), 0) e V') := Lib.hid (by
          have k := HI.out.calls (ca := ca) (cb := cb) i ⟨f, Ss, Hh⟩ (show f ≤ 20000 from HF.out.1.2) wt (Ht.out.2.2.2.1)
          rw [HF.out.2.2.2.2 f (Ss) (Hh) HF.out.1.1 HF.out.1.2 (by have := HF.out.2.1; have := HF.out.2.2.1; have := HC.out; have := HHR.out; have := HSR.out; omega) (by have := HF.out.2.1; have := HF.out.2.2.1; have := HC.out; have := HHR.out; have := HSR.out; omega) (by have := HF.out.2.1; have := HF.out.2.2.2.1; have := HC.out; have := HHR.out; have := HSR.out; omega) (by have := HF.out.2.1; have := HF.out.2.2.2.1; have := HC.out; have := HHR.out; have := HSR.out; omega)] at k
          exact k)
        have BMx := Ht.out.1
        have BGx := Ht.out.2.2.2.2.2.2.2
        have r0 := BMx.c 0 _ rfl
        have r1 := BMx.c 1 _ rfl
        have r2 := BMx.c 2 _ rfl
        have r3 := BMx.c 3 _ rfl
        have fr0 := BMx.f 0
        have fr1 := BMx.f 1
        have fr2 := BMx.f 2
        have fr3 := BMx.f 3
        have lr := BMx.l
        have z0 := BGx.c 0 _ rfl
        have z1 := BGx.c 1 _ rfl
        have z2 := BGx.c 2 _ rfl
        have fz0 := BGx.f 0
        have fz1 := BGx.f 1
        have fz2 := BGx.f 2
        have lz := BGx.l
        clear BMx BGx
        go_wp2_with fail
        refine HRUN3.out.mono ?_
        rintro e w14 ⟨A3, k3, rfl, hb, hg⟩
        dsimp only [rtup, oagg, cagg]
        have hbA : Below w14.heap.size w14 ((w14.alloc (.cells #[.int .i64 o0, .int .u8 o1, .int .i64 o2, .int .i64 o3] 31)).alloc (.cells #[.int .i64 u0, .int .i64 u1, .int .i64 u2] 33)) := ((Below.refl _ _).alloc (Nat.le_refl _) (.cells #[.int .i64 o0, .int .u8 o1, .int .i64 o2, .int .i64 o3] 31)).alloc (by simp only [World.size_alloc]; omega) (.cells #[.int .i64 u0, .int .i64 u1, .int .i64 u2] 33)
        have bo := ((Ht.out.2.2.2.2.2.1).below hb).below hbA
        have bc := ((Ht.out.2.2.2.2.2.2.1).below hb).below hbA
        have hg1 := ((Ht.out.2.2.2.2.1).below hb).below hbA
        have hBn := below_next (below_next (Ht.out.2.2.2.1) hb) hbA
        have hgn := hg.below hbA
        have BO := (Blk.new w14 #[.int .i64 o0, .int .u8 o1, .int .i64 o2, .int .i64 o3] 31).alloc (.cells #[.int .i64 u0, .int .i64 u1, .int .i64 u2] 33)
        have BC := Blk.new (w14.alloc (.cells #[.int .i64 o0, .int .u8 o1, .int .i64 o2, .int .i64 o3] 31)) #[.int .i64 u0, .int .i64 u1, .int .i64 u2] 33
        have hsz := hb.size
        simp only [World.size_alloc] at BC
        obtain ⟨w15, hw15⟩ : ∃ V, (w14.alloc (.cells #[.int .i64 o0, .int .u8 o1, .int .i64 o2, .int .i64 o3] 31)).alloc (.cells #[.int .i64 u0, .int .i64 u1, .int .i64 u2] 33) = V := ⟨_, rfl⟩
        rw [hw15] at hBn hgn BO BC bo bc hg1
        have Hw15 := Lib.hid hw15
        clear hw15 hbA hb hg
        have HS : Hid (Calls Try.prog 10 #[.slice A1 R.length k1, .slice A3 R.length k3] w15 fun e w' => e = .returned (.bool true) ∧ Below w15.heap.size w15 w') := Lib.hid ((same_any A1 A3 R.length k1 R.length k3 R R w15 hg1.vs hgn.vs HLEN.out HLEN.out).mono (fun e w' h => ⟨by rw [h.1, decide_eq_true rfl], h.2⟩))
        have HZ := Lib.hid (And.intro bo (And.intro bc (And.intro BO (And.intro BC (hBn)))))
        clear bo bc BO BC hBn hg1 hgn hsz HRUN3 r0 r1 r2 r3 fr0 fr1 fr2 fr3 lr z0 z1 z2 fz0 fz1 fz2 lz
        go_upto_region 19 with fail
        rw [Hw15.out]
        go_wp2_with fail
        refine HS.out.mono ?_
        rintro e w16 ⟨rfl, hbz⟩
        have bo := (HZ.out.1).below hbz
        have bc := (HZ.out.2.1).below hbz
        have BO := (HZ.out.2.2.1).below hbz
        have BC := (HZ.out.2.2.2.1).below hbz
        have HBZ := Lib.hid (below_next (HZ.out.2.2.2.2) hbz)
        have xa0 := bo.c 0 _ rfl
        have xa1 := bo.c 1 _ rfl
        have xa2 := bo.c 2 _ rfl
        have xa3 := bo.c 3 _ rfl
        have fxa0 := bo.f 0
        have fxa1 := bo.f 1
        have fxa2 := bo.f 2
        have fxa3 := bo.f 3
        have lxa := bo.l
        have xb0 := bc.c 0 _ rfl
        have xb1 := bc.c 1 _ rfl
        have xb2 := bc.c 2 _ rfl
        have fxb0 := bc.f 0
        have fxb1 := bc.f 1
        have fxb2 := bc.f 2
        have lxb := bc.l
        have ya0 := BO.c 0 _ rfl
        have ya1 := BO.c 1 _ rfl
        have ya2 := BO.c 2 _ rfl
        have ya3 := BO.c 3 _ rfl
        have fya0 := BO.f 0
        have fya1 := BO.f 1
        have fya2 := BO.f 2
        have fya3 := BO.f 3
        have lya := BO.l
        have yb0 := BC.c 0 _ rfl
        have yb1 := BC.c 1 _ rfl
        have yb2 := BC.c 2 _ rfl
        have fyb0 := BC.f 0
        have fyb1 := BC.f 1
        have fyb2 := BC.f 2
        have lyb := BC.l
        clear bo bc BO BC hbz HS
        have e1 : ∀ W, (binOp .eql 31 (.agg #[.int .i64 o0, .int .u8 o1, .int .i64 o2, .int .i64 o3]) (.agg #[.int .i64 o0, .int .u8 o1, .int .i64 o2, .int .i64 o3])).run Try.prog W = .ok (.bool true) W := fun W => out_eql o0 o1 o2 o3 o0 o1 o2 o3 W true (decide_eq_true rfl)
        have e2 : ∀ W, (binOp .eql 33 (.agg #[.int .i64 u0, .int .i64 u1, .int .i64 u2]) (.agg #[.int .i64 u0, .int .i64 u1, .int .i64 u2])).run Try.prog W = .ok (.bool true) W := fun W => cert_eql u0 u1 u2 u0 u1 u2 W true (decide_eq_true rfl)
        go_wp2_with fail
        go_ret
        exact ⟨rfl, HBZ.out⟩
      · have a6 : decide (m2 < d2) = false := decide_eq_false hh
        clear hh
        go_upto_region 18 with fail
        clear s0 s1 s2 fs0 fs1 fs2 ls t0 t1 t2 ft0 ft1 ft2 lt z0 z1 z2 fz0 fz1 fz2 lz
        have HRUN3 : Hid (Calls Try.prog 8 #[.agg #[.slice Mg nmg cmg, .slice Mp np cp, .slice Mm nm cm, .int .i64 mi], .int .i64 i, .slice Aa na ca, .slice Ab ng cb, .agg #[.int .i64 f, .int .i64 Ss, .int .i64 1024]] wv fun e V' => RunTo wv (R, (o0, o1, o2, o3), (u0, u1, u2), 0) e V') := Lib.hid (by
          have k := HI.out.calls (ca := ca) (cb := cb) i ⟨f, Ss, 1024⟩ (show f ≤ 20000 from HF.out.1.2) wv (Hv.out.2.2.2.1)
          rw [HF.out.2.2.2.2 f (Ss) (1024) HF.out.1.1 HF.out.1.2 (by have := HF.out.2.1; have := HF.out.2.2.1; have := HC.out; have := HSR.out; omega) (by have := HF.out.2.1; have := HF.out.2.2.1; have := HC.out; have := HSR.out; omega) (by have := HF.out.2.1; have := HF.out.2.2.2.1; have := HC.out; have := HSR.out; omega) (by have := HF.out.2.1; have := HF.out.2.2.2.1; have := HC.out; have := HSR.out; omega)] at k
          exact k)
        have BMx := Hv.out.1
        have BGx := Hv.out.2.2.2.2.2.2.2
        have r0 := BMx.c 0 _ rfl
        have r1 := BMx.c 1 _ rfl
        have r2 := BMx.c 2 _ rfl
        have r3 := BMx.c 3 _ rfl
        have fr0 := BMx.f 0
        have fr1 := BMx.f 1
        have fr2 := BMx.f 2
        have fr3 := BMx.f 3
        have lr := BMx.l
        have z0 := BGx.c 0 _ rfl
        have z1 := BGx.c 1 _ rfl
        have z2 := BGx.c 2 _ rfl
        have fz0 := BGx.f 0
        have fz1 := BGx.f 1
        have fz2 := BGx.f 2
        have lz := BGx.l
        clear BMx BGx
        go_wp2_with fail
        refine HRUN3.out.mono ?_
        rintro e w14 ⟨A3, k3, rfl, hb, hg⟩
        dsimp only [rtup, oagg, cagg]
        have hbA : Below w14.heap.size w14 ((w14.alloc (.cells #[.int .i64 o0, .int .u8 o1, .int .i64 o2, .int .i64 o3] 31)).alloc (.cells #[.int .i64 u0, .int .i64 u1, .int .i64 u2] 33)) := ((Below.refl _ _).alloc (Nat.le_refl _) (.cells #[.int .i64 o0, .int .u8 o1, .int .i64 o2, .int .i64 o3] 31)).alloc (by simp only [World.size_alloc]; omega) (.cells #[.int .i64 u0, .int .i64 u1, .int .i64 u2] 33)
        have bo := ((Hv.out.2.2.2.2.2.1).below hb).below hbA
        have bc := ((Hv.out.2.2.2.2.2.2.1).below hb).below hbA
        have hg1 := ((Hv.out.2.2.2.2.1).below hb).below hbA
        have hBn := below_next (below_next (Hv.out.2.2.2.1) hb) hbA
        have hgn := hg.below hbA
        have BO := (Blk.new w14 #[.int .i64 o0, .int .u8 o1, .int .i64 o2, .int .i64 o3] 31).alloc (.cells #[.int .i64 u0, .int .i64 u1, .int .i64 u2] 33)
        have BC := Blk.new (w14.alloc (.cells #[.int .i64 o0, .int .u8 o1, .int .i64 o2, .int .i64 o3] 31)) #[.int .i64 u0, .int .i64 u1, .int .i64 u2] 33
        have hsz := hb.size
        simp only [World.size_alloc] at BC
        obtain ⟨w15, hw15⟩ : ∃ V, (w14.alloc (.cells #[.int .i64 o0, .int .u8 o1, .int .i64 o2, .int .i64 o3] 31)).alloc (.cells #[.int .i64 u0, .int .i64 u1, .int .i64 u2] 33) = V := ⟨_, rfl⟩
        rw [hw15] at hBn hgn BO BC bo bc hg1
        have Hw15 := Lib.hid hw15
        clear hw15 hbA hb hg
        have HS : Hid (Calls Try.prog 10 #[.slice A1 R.length k1, .slice A3 R.length k3] w15 fun e w' => e = .returned (.bool true) ∧ Below w15.heap.size w15 w') := Lib.hid ((same_any A1 A3 R.length k1 R.length k3 R R w15 hg1.vs hgn.vs HLEN.out HLEN.out).mono (fun e w' h => ⟨by rw [h.1, decide_eq_true rfl], h.2⟩))
        have HZ := Lib.hid (And.intro bo (And.intro bc (And.intro BO (And.intro BC (hBn)))))
        clear bo bc BO BC hBn hg1 hgn hsz HRUN3 r0 r1 r2 r3 fr0 fr1 fr2 fr3 lr z0 z1 z2 fz0 fz1 fz2 lz
        go_upto_region 19 with fail
        rw [Hw15.out]
        go_wp2_with fail
        refine HS.out.mono ?_
        rintro e w16 ⟨rfl, hbz⟩
        have bo := (HZ.out.1).below hbz
        have bc := (HZ.out.2.1).below hbz
        have BO := (HZ.out.2.2.1).below hbz
        have BC := (HZ.out.2.2.2.1).below hbz
        have HBZ := Lib.hid (below_next (HZ.out.2.2.2.2) hbz)
        have xa0 := bo.c 0 _ rfl
        have xa1 := bo.c 1 _ rfl
        have xa2 := bo.c 2 _ rfl
        have xa3 := bo.c 3 _ rfl
        have fxa0 := bo.f 0
        have fxa1 := bo.f 1
        have fxa2 := bo.f 2
        have fxa3 := bo.f 3
        have lxa := bo.l
        have xb0 := bc.c 0 _ rfl
        have xb1 := bc.c 1 _ rfl
        have xb2 := bc.c 2 _ rfl
        have fxb0 := bc.f 0
        have fxb1 := bc.f 1
        have fxb2 := bc.f 2
        have lxb := bc.l
        have ya0 := BO.c 0 _ rfl
        have ya1 := BO.c 1 _ rfl
        have ya2 := BO.c 2 _ rfl
        have ya3 := BO.c 3 _ rfl
        have fya0 := BO.f 0
        have fya1 := BO.f 1
        have fya2 := BO.f 2
        have fya3 := BO.f 3
        have lya := BO.l
        have yb0 := BC.c 0 _ rfl
        have yb1 := BC.c 1 _ rfl
        have yb2 := BC.c 2 _ rfl
        have fyb0 := BC.f 0
        have fyb1 := BC.f 1
        have fyb2 := BC.f 2
        have lyb := BC.l
        clear bo bc BO BC hbz HS
        have e1 : ∀ W, (binOp .eql 31 (.agg #[.int .i64 o0, .int .u8 o1, .int .i64 o2, .int .i64 o3]) (.agg #[.int .i64 o0, .int .u8 o1, .int .i64 o2, .int .i64 o3])).run Try.prog W = .ok (.bool true) W := fun W => out_eql o0 o1 o2 o3 o0 o1 o2 o3 W true (decide_eq_true rfl)
        have e2 : ∀ W, (binOp .eql 33 (.agg #[.int .i64 u0, .int .i64 u1, .int .i64 u2]) (.agg #[.int .i64 u0, .int .i64 u1, .int .i64 u2])).run Try.prog W = .ok (.bool true) W := fun W => cert_eql u0 u1 u2 u0 u1 u2 W true (decide_eq_true rfl)
        go_wp2_with fail
        go_ret
        exact ⟨rfl, HBZ.out⟩
    · have a5 : decide (m1 < d1) = false := decide_eq_false hs
      clear hs
      go_upto_region 16 with fail
      by_cases hh : m2 < d2
      · have a6 : decide (m2 < d2) = true := decide_eq_true hh
        obtain ⟨Hh, hHh⟩ : ∃ x, l2 + m2 = x := ⟨_, rfl⟩
        have HHR : Hid (l2 ≤ Hh ∧ Hh ≤ 1024) := Lib.hid (by have := HF.out.2.1; have := HF.out.2.2.2.1; have := HC.out; omega)
        have hwh : wrap64 Hh = Hh := w64_ok Hh (by have := HHR.out; have := HF.out.2.1; omega)
        clear hh
        go_upto_region 18 with fail
        have bmt := (H9.out.1).other (b' := g) (by have := HN.out.2.1.1; omega) 2 (.int .i64 Hh)
        have blt := (H9.out.2.1).other (b' := g) (by have := HN.out.2.1.2.1; omega) 2 (.int .i64 Hh)
        have brt := (H9.out.2.2.1).other (b' := g) (by have := HN.out.2.1.2.2.1; omega) 2 (.int .i64 Hh)
        have bot := (H9.out.2.2.2.2.2.1).other (b' := g) (by have := HN.out.2.1.2.2.2.1; omega) 2 (.int .i64 Hh)
        have bct := (H9.out.2.2.2.2.2.2.1).other (b' := g) (by have := HN.out.2.1.2.2.2.2; omega) 2 (.int .i64 Hh)
        have hgt := (H9.out.2.2.2.2.1).other HN.out.1 2 (.int .i64 Hh)
        have hBt := Blk.below_set (H9.out.2.2.2.1) HN.out.2.2 2 (.int .i64 Hh)
        have BGt := (H9.out.2.2.2.2.2.2.2).set (j := 2) rfl (.int .i64 Hh)
        obtain ⟨wt, hwt⟩ : ∃ V, w9.setCell ⟨g, 2, none⟩ (.int .i64 Hh) = V := ⟨_, rfl⟩
        rw [hwt]
        rw [hwt] at bmt blt brt hBt hgt bot bct BGt
        have Ht := Lib.hid (And.intro bmt (And.intro blt (And.intro brt (And.intro hBt (And.intro hgt (And.intro bot (And.intro bct (BGt))))))))
        clear hwt bmt blt brt hBt hgt bot bct BGt s0 s1 s2 fs0 fs1 fs2 ls t0 t1 t2 ft0 ft1 ft2 lt z0 z1 z2 fz0 fz1 fz2 lz
        have HRUN3 : Hid (Calls Try.prog 8 #[.agg #[.slice Mg nmg cmg, .slice Mp np cp, .slice Mm nm cm, .int .i64 mi], .int .i64 i, .slice Aa na ca, .slice Ab ng cb, .agg #[.int .i64 f, .int .i64 256, .int .i64 Hh]] wt fun e V' => RunTo wt (R, (o0, o1, o2, o3), (u0, u1, u2), 0) e V') := Lib.hid (by
          have k := HI.out.calls (ca := ca) (cb := cb) i ⟨f, 256, Hh⟩ (show f ≤ 20000 from HF.out.1.2) wt (Ht.out.2.2.2.1)
          rw [HF.out.2.2.2.2 f (256) (Hh) HF.out.1.1 HF.out.1.2 (by have := HF.out.2.1; have := HF.out.2.2.1; have := HC.out; have := HHR.out; omega) (by have := HF.out.2.1; have := HF.out.2.2.1; have := HC.out; have := HHR.out; omega) (by have := HF.out.2.1; have := HF.out.2.2.2.1; have := HC.out; have := HHR.out; omega) (by have := HF.out.2.1; have := HF.out.2.2.2.1; have := HC.out; have := HHR.out; omega)] at k
          exact k)
        have BMx := Ht.out.1
        have BGx := Ht.out.2.2.2.2.2.2.2
        have r0 := BMx.c 0 _ rfl
        have r1 := BMx.c 1 _ rfl
        have r2 := BMx.c 2 _ rfl
        have r3 := BMx.c 3 _ rfl
        have fr0 := BMx.f 0
        have fr1 := BMx.f 1
        have fr2 := BMx.f 2
        have fr3 := BMx.f 3
        have lr := BMx.l
        have z0 := BGx.c 0 _ rfl
        have z1 := BGx.c 1 _ rfl
        have z2 := BGx.c 2 _ rfl
        have fz0 := BGx.f 0
        have fz1 := BGx.f 1
        have fz2 := BGx.f 2
        have lz := BGx.l
        clear BMx BGx
        go_wp2_with fail
        refine HRUN3.out.mono ?_
        rintro e w14 ⟨A3, k3, rfl, hb, hg⟩
        dsimp only [rtup, oagg, cagg]
        have hbA : Below w14.heap.size w14 ((w14.alloc (.cells #[.int .i64 o0, .int .u8 o1, .int .i64 o2, .int .i64 o3] 31)).alloc (.cells #[.int .i64 u0, .int .i64 u1, .int .i64 u2] 33)) := ((Below.refl _ _).alloc (Nat.le_refl _) (.cells #[.int .i64 o0, .int .u8 o1, .int .i64 o2, .int .i64 o3] 31)).alloc (by simp only [World.size_alloc]; omega) (.cells #[.int .i64 u0, .int .i64 u1, .int .i64 u2] 33)
        have bo := ((Ht.out.2.2.2.2.2.1).below hb).below hbA
        have bc := ((Ht.out.2.2.2.2.2.2.1).below hb).below hbA
        have hg1 := ((Ht.out.2.2.2.2.1).below hb).below hbA
        have hBn := below_next (below_next (Ht.out.2.2.2.1) hb) hbA
        have hgn := hg.below hbA
        have BO := (Blk.new w14 #[.int .i64 o0, .int .u8 o1, .int .i64 o2, .int .i64 o3] 31).alloc (.cells #[.int .i64 u0, .int .i64 u1, .int .i64 u2] 33)
        have BC := Blk.new (w14.alloc (.cells #[.int .i64 o0, .int .u8 o1, .int .i64 o2, .int .i64 o3] 31)) #[.int .i64 u0, .int .i64 u1, .int .i64 u2] 33
        have hsz := hb.size
        simp only [World.size_alloc] at BC
        obtain ⟨w15, hw15⟩ : ∃ V, (w14.alloc (.cells #[.int .i64 o0, .int .u8 o1, .int .i64 o2, .int .i64 o3] 31)).alloc (.cells #[.int .i64 u0, .int .i64 u1, .int .i64 u2] 33) = V := ⟨_, rfl⟩
        rw [hw15] at hBn hgn BO BC bo bc hg1
        have Hw15 := Lib.hid hw15
        clear hw15 hbA hb hg
        have HS : Hid (Calls Try.prog 10 #[.slice A1 R.length k1, .slice A3 R.length k3] w15 fun e w' => e = .returned (.bool true) ∧ Below w15.heap.size w15 w') := Lib.hid ((same_any A1 A3 R.length k1 R.length k3 R R w15 hg1.vs hgn.vs HLEN.out HLEN.out).mono (fun e w' h => ⟨by rw [h.1, decide_eq_true rfl], h.2⟩))
        have HZ := Lib.hid (And.intro bo (And.intro bc (And.intro BO (And.intro BC (hBn)))))
        clear bo bc BO BC hBn hg1 hgn hsz HRUN3 r0 r1 r2 r3 fr0 fr1 fr2 fr3 lr z0 z1 z2 fz0 fz1 fz2 lz
        go_upto_region 19 with fail
        rw [Hw15.out]
        go_wp2_with fail
        refine HS.out.mono ?_
        rintro e w16 ⟨rfl, hbz⟩
        have bo := (HZ.out.1).below hbz
        have bc := (HZ.out.2.1).below hbz
        have BO := (HZ.out.2.2.1).below hbz
        have BC := (HZ.out.2.2.2.1).below hbz
        have HBZ := Lib.hid (below_next (HZ.out.2.2.2.2) hbz)
        have xa0 := bo.c 0 _ rfl
        have xa1 := bo.c 1 _ rfl
        have xa2 := bo.c 2 _ rfl
        have xa3 := bo.c 3 _ rfl
        have fxa0 := bo.f 0
        have fxa1 := bo.f 1
        have fxa2 := bo.f 2
        have fxa3 := bo.f 3
        have lxa := bo.l
        have xb0 := bc.c 0 _ rfl
        have xb1 := bc.c 1 _ rfl
        have xb2 := bc.c 2 _ rfl
        have fxb0 := bc.f 0
        have fxb1 := bc.f 1
        have fxb2 := bc.f 2
        have lxb := bc.l
        have ya0 := BO.c 0 _ rfl
        have ya1 := BO.c 1 _ rfl
        have ya2 := BO.c 2 _ rfl
        have ya3 := BO.c 3 _ rfl
        have fya0 := BO.f 0
        have fya1 := BO.f 1
        have fya2 := BO.f 2
        have fya3 := BO.f 3
        have lya := BO.l
        have yb0 := BC.c 0 _ rfl
        have yb1 := BC.c 1 _ rfl
        have yb2 := BC.c 2 _ rfl
        have fyb0 := BC.f 0
        have fyb1 := BC.f 1
        have fyb2 := BC.f 2
        have lyb := BC.l
        clear bo bc BO BC hbz HS
        have e1 : ∀ W, (binOp .eql 31 (.agg #[.int .i64 o0, .int .u8 o1, .int .i64 o2, .int .i64 o3]) (.agg #[.int .i64 o0, .int .u8 o1, .int .i64 o2, .int .i64 o3])).run Try.prog W = .ok (.bool true) W := fun W => out_eql o0 o1 o2 o3 o0 o1 o2 o3 W true (decide_eq_true rfl)
        have e2 : ∀ W, (binOp .eql 33 (.agg #[.int .i64 u0, .int .i64 u1, .int .i64 u2]) (.agg #[.int .i64 u0, .int .i64 u1, .int .i64 u2])).run Try.prog W = .ok (.bool true) W := fun W => cert_eql u0 u1 u2 u0 u1 u2 W true (decide_eq_true rfl)
        go_wp2_with fail
        go_ret
        exact ⟨rfl, HBZ.out⟩
      · have a6 : decide (m2 < d2) = false := decide_eq_false hh
        clear hh
        go_upto_region 18 with fail
        clear s0 s1 s2 fs0 fs1 fs2 ls t0 t1 t2 ft0 ft1 ft2 lt z0 z1 z2 fz0 fz1 fz2 lz
        have HRUN3 : Hid (Calls Try.prog 8 #[.agg #[.slice Mg nmg cmg, .slice Mp np cp, .slice Mm nm cm, .int .i64 mi], .int .i64 i, .slice Aa na ca, .slice Ab ng cb, .agg #[.int .i64 f, .int .i64 256, .int .i64 1024]] w9 fun e V' => RunTo w9 (R, (o0, o1, o2, o3), (u0, u1, u2), 0) e V') := Lib.hid (by
          have k := HI.out.calls (ca := ca) (cb := cb) i ⟨f, 256, 1024⟩ (show f ≤ 20000 from HF.out.1.2) w9 (H9.out.2.2.2.1)
          rw [HF.out.2.2.2.2 f (256) (1024) HF.out.1.1 HF.out.1.2 (by have := HF.out.2.1; have := HF.out.2.2.1; have := HC.out; omega) (by have := HF.out.2.1; have := HF.out.2.2.1; have := HC.out; omega) (by have := HF.out.2.1; have := HF.out.2.2.2.1; have := HC.out; omega) (by have := HF.out.2.1; have := HF.out.2.2.2.1; have := HC.out; omega)] at k
          exact k)
        have BMx := H9.out.1
        have BGx := H9.out.2.2.2.2.2.2.2
        have r0 := BMx.c 0 _ rfl
        have r1 := BMx.c 1 _ rfl
        have r2 := BMx.c 2 _ rfl
        have r3 := BMx.c 3 _ rfl
        have fr0 := BMx.f 0
        have fr1 := BMx.f 1
        have fr2 := BMx.f 2
        have fr3 := BMx.f 3
        have lr := BMx.l
        have z0 := BGx.c 0 _ rfl
        have z1 := BGx.c 1 _ rfl
        have z2 := BGx.c 2 _ rfl
        have fz0 := BGx.f 0
        have fz1 := BGx.f 1
        have fz2 := BGx.f 2
        have lz := BGx.l
        clear BMx BGx
        go_wp2_with fail
        refine HRUN3.out.mono ?_
        rintro e w14 ⟨A3, k3, rfl, hb, hg⟩
        dsimp only [rtup, oagg, cagg]
        have hbA : Below w14.heap.size w14 ((w14.alloc (.cells #[.int .i64 o0, .int .u8 o1, .int .i64 o2, .int .i64 o3] 31)).alloc (.cells #[.int .i64 u0, .int .i64 u1, .int .i64 u2] 33)) := ((Below.refl _ _).alloc (Nat.le_refl _) (.cells #[.int .i64 o0, .int .u8 o1, .int .i64 o2, .int .i64 o3] 31)).alloc (by simp only [World.size_alloc]; omega) (.cells #[.int .i64 u0, .int .i64 u1, .int .i64 u2] 33)
        have bo := ((H9.out.2.2.2.2.2.1).below hb).below hbA
        have bc := ((H9.out.2.2.2.2.2.2.1).below hb).below hbA
        have hg1 := ((H9.out.2.2.2.2.1).below hb).below hbA
        have hBn := below_next (below_next (H9.out.2.2.2.1) hb) hbA
        have hgn := hg.below hbA
        have BO := (Blk.new w14 #[.int .i64 o0, .int .u8 o1, .int .i64 o2, .int .i64 o3] 31).alloc (.cells #[.int .i64 u0, .int .i64 u1, .int .i64 u2] 33)
        have BC := Blk.new (w14.alloc (.cells #[.int .i64 o0, .int .u8 o1, .int .i64 o2, .int .i64 o3] 31)) #[.int .i64 u0, .int .i64 u1, .int .i64 u2] 33
        have hsz := hb.size
        simp only [World.size_alloc] at BC
        obtain ⟨w15, hw15⟩ : ∃ V, (w14.alloc (.cells #[.int .i64 o0, .int .u8 o1, .int .i64 o2, .int .i64 o3] 31)).alloc (.cells #[.int .i64 u0, .int .i64 u1, .int .i64 u2] 33) = V := ⟨_, rfl⟩
        rw [hw15] at hBn hgn BO BC bo bc hg1
        have Hw15 := Lib.hid hw15
        clear hw15 hbA hb hg
        have HS : Hid (Calls Try.prog 10 #[.slice A1 R.length k1, .slice A3 R.length k3] w15 fun e w' => e = .returned (.bool true) ∧ Below w15.heap.size w15 w') := Lib.hid ((same_any A1 A3 R.length k1 R.length k3 R R w15 hg1.vs hgn.vs HLEN.out HLEN.out).mono (fun e w' h => ⟨by rw [h.1, decide_eq_true rfl], h.2⟩))
        have HZ := Lib.hid (And.intro bo (And.intro bc (And.intro BO (And.intro BC (hBn)))))
        clear bo bc BO BC hBn hg1 hgn hsz HRUN3 r0 r1 r2 r3 fr0 fr1 fr2 fr3 lr z0 z1 z2 fz0 fz1 fz2 lz
        go_upto_region 19 with fail
        rw [Hw15.out]
        go_wp2_with fail
        refine HS.out.mono ?_
        rintro e w16 ⟨rfl, hbz⟩
        have bo := (HZ.out.1).below hbz
        have bc := (HZ.out.2.1).below hbz
        have BO := (HZ.out.2.2.1).below hbz
        have BC := (HZ.out.2.2.2.1).below hbz
        have HBZ := Lib.hid (below_next (HZ.out.2.2.2.2) hbz)
        have xa0 := bo.c 0 _ rfl
        have xa1 := bo.c 1 _ rfl
        have xa2 := bo.c 2 _ rfl
        have xa3 := bo.c 3 _ rfl
        have fxa0 := bo.f 0
        have fxa1 := bo.f 1
        have fxa2 := bo.f 2
        have fxa3 := bo.f 3
        have lxa := bo.l
        have xb0 := bc.c 0 _ rfl
        have xb1 := bc.c 1 _ rfl
        have xb2 := bc.c 2 _ rfl
        have fxb0 := bc.f 0
        have fxb1 := bc.f 1
        have fxb2 := bc.f 2
        have lxb := bc.l
        have ya0 := BO.c 0 _ rfl
        have ya1 := BO.c 1 _ rfl
        have ya2 := BO.c 2 _ rfl
        have ya3 := BO.c 3 _ rfl
        have fya0 := BO.f 0
        have fya1 := BO.f 1
        have fya2 := BO.f 2
        have fya3 := BO.f 3
        have lya := BO.l
        have yb0 := BC.c 0 _ rfl
        have yb1 := BC.c 1 _ rfl
        have yb2 := BC.c 2 _ rfl
        have fyb0 := BC.f 0
        have fyb1 := BC.f 1
        have fyb2 := BC.f 2
        have lyb := BC.l
        clear bo bc BO BC hbz HS
        have e1 : ∀ W, (binOp .eql 31 (.agg #[.int .i64 o0, .int .u8 o1, .int .i64 o2, .int .i64 o3]) (.agg #[.int .i64 o0, .int .u8 o1, .int .i64 o2, .int .i64 o3])).run Try.prog W = .ok (.bool true) W := fun W => out_eql o0 o1 o2 o3 o0 o1 o2 o3 W true (decide_eq_true rfl)
        have e2 : ∀ W, (binOp .eql 33 (.agg #[.int .i64 u0, .int .i64 u1, .int .i64 u2]) (.agg #[.int .i64 u0, .int .i64 u1, .int .i64 u2])).run Try.prog W = .ok (.bool true) W := fun W => cert_eql u0 u1 u2 u0 u1 u2 W true (decide_eq_true rfl)
        go_wp2_with fail
        go_ret
        exact ⟨rfl, HBZ.out⟩
  · have n1 : (ee != 0) = true := by simp [h0]
    have n2 : (ee != ee) = false := by simp
    go_wp2_with fail
    go_ret
    exact ⟨rfl, H8.out.2.2.2.1⟩

theorem more_walk (cs : Array Value) (i : Int) (Aa : Option Addr) (na ca : Nat) (Ab : Option Addr) (ng cb : Nat) (ls ms : Array Value) (W : World) (hcs : cs.size = Try.prog.cellsOf 25) (hd : deepOk Try.prog W 8 25 cs.toList) (wi : (Lit.int .i64 i).wf = true) (ha : deepOk Try.prog W 8 22 [.slice Aa na ca]) (hb : deepOk Try.prog W 8 22 [.slice Ab ng cb])
    (hls : ls.size = Try.prog.cellsOf 33) (hdl : deepOk Try.prog W 8 33 ls.toList) (hms : ms.size = Try.prog.cellsOf 33) (hdm : deepOk Try.prog W 8 33 ms.toList) :
    Calls Try.prog 4 #[.agg cs, .int .i64 i, .slice Aa na ca, .slice Ab ng cb, .agg ls, .agg ms] W fun e w' => e = .returned (.bool true) ∧ Below W.heap.size W w' := by
  obtain ⟨Mg, nmg, cmg, Mp, np, cp, Mm, nm, cm, mi, ps, rfl, hps, hm⟩ := mod_open hcs hd
  obtain ⟨l0, l1, l2, rfl, -, -, -⟩ := lim_open hls hdl
  obtain ⟨m0, m1, m2, rfl, -, -, -⟩ := lim_open hms hdm
  rcases Bool.eq_false_or_eq_true (greatB nmg np nm ps) with hq | hq
  · by_cases h0 : (20 : Int) < (na : Int)
    · exact out4_0 i l0 l1 l2 m0 m1 m2 hps hq h0
    by_cases h1 : (20 : Int) < (ng : Int)
    · exact out4_1 i l0 l1 l2 m0 m1 m2 hps hq h0 h1
    by_cases h2 : (10000 : Int) < (l0 : Int)
    · exact out4_2 i l0 l1 l2 m0 m1 m2 hps hq h0 h1 h2
    by_cases h3 : (256 : Int) < (l1 : Int)
    · exact out4_3 i l0 l1 l2 m0 m1 m2 hps hq h0 h1 h2 h3
    by_cases h4 : (1024 : Int) < (l2 : Int)
    · exact out4_4 i l0 l1 l2 m0 m1 m2 hps hq h0 h1 h2 h3 h4
    by_cases h5 : (m0 : Int) < (0 : Int)
    · exact out4_5 i l0 l1 l2 m0 m1 m2 hps hq h0 h1 h2 h3 h4 h5
    by_cases h6 : (10000 : Int) < (m0 : Int)
    · exact out4_6 i l0 l1 l2 m0 m1 m2 hps hq h0 h1 h2 h3 h4 h5 h6
    by_cases h7 : (m1 : Int) < (0 : Int)
    · exact out4_7 i l0 l1 l2 m0 m1 m2 hps hq h0 h1 h2 h3 h4 h5 h6 h7
    by_cases h8 : (m2 : Int) < (0 : Int)
    · exact out4_8 i l0 l1 l2 m0 m1 m2 hps hq h0 h1 h2 h3 h4 h5 h6 h7 h8
    obtain ⟨m, hm⟩ := hm hq
    obtain ⟨vs, hv⟩ := vals_arg ha
    obtain ⟨gs, hg⟩ := vals_arg hb
    have hna : na ≤ 20 := by omega
    have hng : ng ≤ 20 := by omega
    exact in4 i l0 l1 l2 m0 m1 m2 hps hq hna hng h0 h1 h2 h3 h4 h5 h6 h7 h8 (hm _ _ _ _ _ _ hv hg hna hng)
  · exact out4_g i l0 l1 l2 m0 m1 m2 hps hq
end
#print axioms w64_ok
#print axioms in4
#print axioms more_walk
end Go.Proofs.Ytkhgpeejmbfmjaa
/- With greater limits a call that came to something comes to the same, and took as much: for every module, method, arguments, globals, limits and how much more, no condition. -/
namespace Go.Proofs.Ytkhgpeejmbfmjaa.machineMore
open Go.ChangeShapes Go.WideShapes Go.ChangeAt Go.RowKit Go.Deep
open Go.ChangeMaps (open_string shut_string)
set_option linter.unusedVariables false

theorem own : ownKnob Try.prog.godebug = none := by kernel_rfl
set_option maxRecDepth 100000 in
theorem lifted (os : Os) (started : os.Started) (H : Type) (enc : TypeId × Value → H) :
    ReturnsInHanded {} Try.checked os 4 .any (Rows.machineMoreSpec.pre6 enc Try.prog Try.f4 Rows.machineMoreRow.domain false) (Rows.machineMoreSpec.post enc Try.prog Try.f4 false true false false) := by
  refine returnsInHanded_of_change_sized (C := Try.checked) own started (by kernel_rfl) Try.func4
    (ChangeSpec.witness6 (enc := enc) (C := Try.checked) false ⟨#[], #[.agg #[.slice none 0 0, .slice none 0 0, .slice none 0 0, .int .i64 0], .int .i64 0, .slice none 0 0, .slice none 0 0, .agg #[.int .i64 0, .int .i64 0, .int .i64 0], .agg #[.int .i64 0, .int .i64 0, .int .i64 0]], []⟩ 8 (by kernel_rfl) (by kernel_rfl) (by kernel_rfl) (by kernel_rfl)) ?_
  intro W base args ds gs before hval0 hW hcnd hsz0 _
  have hsz : (DataW.weightsEach Try.prog (Try.f4.params.toList ++ Rows.machineMoreSpec.plain.varTypes Try.prog) (ds ++ gs)).all (· ≤ reachBytes) = true := hsz0
  have hval : ∀ (j : Nat) t v, Try.f4.params[j]? = some t → args[j]? = some v → Value.okWide Try.prog W .any base t v := hval0
  have hW' := hW
  obtain ⟨p, q, hA0, hV, rfl, hfz, hnd⟩ := hW
  have hA : DataW.TrodAll enc Try.prog W 0 (fun _ => true) true Try.f4.params.toList args.toList ds p := hA0
  rw [Try.params4] at hA hval hsz
  obtain ⟨v0, vs0, d0, ds0, p0, q0, hargs, rfl, rfl, h0, r0⟩ := trodAll_cons hA
  obtain ⟨v1, vs1, d1, ds1, p1, q1, rfl, rfl, rfl, h1, r1⟩ := trodAll_cons r0
  obtain ⟨v2, vs2, d2, ds2, p2, q2, rfl, rfl, rfl, h2, r2⟩ := trodAll_cons r1
  obtain ⟨v3, vs3, d3, ds3, p3, q3, rfl, rfl, rfl, h3, r3⟩ := trodAll_cons r2
  obtain ⟨v4, vs4, d4, ds4, p4, q4, rfl, rfl, rfl, h4, r4⟩ := trodAll_cons r3
  obtain ⟨v5, vs5, d5, ds5, p5, q5, rfl, rfl, rfl, h5, r5⟩ := trodAll_cons r4
  obtain ⟨rfl, rfl, rfl⟩ := trodAll_nil r5
  obtain rfl : args = #[v0, v1, v2, v3, v4, v5] := by cases args; simp_all
  obtain ⟨rfl, rfl⟩ := trodVars_none hV
  have h0k := h0
  have hlt0 : ∀ x ∈ p0, x.block < W.heap.size := fun x hx => by simpa using hW'.lt x (by simp [hx])
  obtain ⟨c0, rfl, w0, u0⟩ := open_deep_agg Try.underlying25 (hval 0 25 v0 rfl rfl) h0 hlt0
  obtain ⟨a1, rfl, rfl, rfl, w1⟩ := open_int Try.underlying3 (hval 1 3 v1 rfl rfl) h1
  have h2k := h2
  have hlt2 : ∀ x ∈ p2, x.block < W.heap.size := fun x hx => by simpa using hW'.lt x (by simp [hx])
  obtain ⟨A2, n2, cap2, rfl, u2⟩ := open_deep_slice Try.underlying22 (hval 2 22 v2 rfl rfl) h2 hlt2
  have h3k := h3
  have hlt3 : ∀ x ∈ p3, x.block < W.heap.size := fun x hx => by simpa using hW'.lt x (by simp [hx])
  obtain ⟨A3, n3, cap3, rfl, u3⟩ := open_deep_slice Try.underlying22 (hval 3 22 v3 rfl rfl) h3 hlt3
  have h4k := h4
  have hlt4 : ∀ x ∈ p4, x.block < W.heap.size := fun x hx => by simpa using hW'.lt x (by simp [hx])
  obtain ⟨c4, rfl, w4, u4⟩ := open_deep_agg Try.underlying33 (hval 4 33 v4 rfl rfl) h4 hlt4
  have h5k := h5
  have hlt5 : ∀ x ∈ p5, x.block < W.heap.size := fun x hx => by simpa using hW'.lt x (by simp [hx])
  obtain ⟨c5, rfl, w5, u5⟩ := open_deep_agg Try.underlying33 (hval 5 33 v5 rfl rfl) h5 hlt5
  clear hA0 hval0 hsz0 hsz
  refine (more_walk c0 a1 A2 n2 cap2 A3 n3 cap3 c4 c5 W w0 u0 w1 u2 u3 w4 u4 w5 u5).mono fun e W' ⟨he, bel⟩ => ?_
  subst he
  exact ⟨_, rfl, _, _, _, [], _, [], hW', trodAll_mk1 (shut_bool Try.underlying4 _), (trodAll_cons_mk (Below.trod (P := Try.prog) (by kernel_rfl) (by kernel_rfl) (of_decide_eq_true (by kernel_rfl)) h0k bel hlt0) (trodAll_cons_mk (shut_int Try.underlying3 w1) (trodAll_cons_mk (Below.trod (P := Try.prog) (by kernel_rfl) (by kernel_rfl) (of_decide_eq_true (by kernel_rfl)) h2k bel hlt2) (trodAll_cons_mk (Below.trod (P := Try.prog) (by kernel_rfl) (by kernel_rfl) (of_decide_eq_true (by kernel_rfl)) h3k bel hlt3) (trodAll_cons_mk (Below.trod (P := Try.prog) (by kernel_rfl) (by kernel_rfl) (of_decide_eq_true (by kernel_rfl)) h4k bel hlt4) (trodAll_cons_mk (Below.trod (P := Try.prog) (by kernel_rfl) (by kernel_rfl) (of_decide_eq_true (by kernel_rfl)) h5k bel hlt5) trodAll_mk0)))))), rfl, bel.frame _, fun h => by cases h⟩
theorem over : Rows.machineMoreRow.holds Try.pinned (OpenSpec.ofChange Rows.machineMoreSpec) :=
  OpenClaim.holds_of_wide 4 Try.f4 rfl rfl rfl rfl rfl rfl rfl ⟨rfl, rfl, rfl, rfl, rfl⟩ rfl rfl rfl rfl rfl (by kernel_rfl) Try.func4 (by kernel_rfl)
    (of_decide_eq_true (by kernel_rfl)) (by unfold Func.isWrapper; first | (rw [if_pos (by decide +kernel)]; kernel_rfl) | (rw [if_neg (by decide +kernel)]; exact ⟨rfl, rfl⟩))
    (fun os started H enc _ => lifted os started H enc)
theorem proved : Rows.MachineMoreSaid := over
end Go.Proofs.Ytkhgpeejmbfmjaa.machineMore
namespace Go.Proofs.Ytkhgpeejmbfmjaa
/-- The row, under a short name, for the claim. -/
theorem machineMore_holds : Rows.MachineMoreSaid := machineMore.proved
#print axioms machineMore_holds
end Go.Proofs.Ytkhgpeejmbfmjaa
