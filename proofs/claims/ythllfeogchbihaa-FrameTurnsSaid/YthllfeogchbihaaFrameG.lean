/- FrameTurns: the law's walk. -/
import Derived.Test.YthllfeogchbihaaFrameF
import Derived.Test.YthllfeogchbihaaOpen
import Derived.Deep.DeepCutAuto
namespace Go.Proofs.Ythllfeogchbihaa
open Go.RowKit
set_option linter.unusedSimpArgs false
set_option linter.unusedVariables false

/-- Bools in a slice. -/
def BoolsAt (w : World) (A : Option Addr) (n : Nat) : Prop := ∀ i, i < n → ∃ g o b, A = some ⟨g, o, none⟩ ∧ g < w.heap.size ∧ w.cell? ⟨g, o + i, none⟩ = some (.bool b)
theorem cells4 : Try.prog.cellsOf 4 = 1 := by kernel_rfl
theorem boolsAt_of {w : World} {A : Option Addr} {m cap n : Nat} (h : deepOk Try.prog w (n + 4) 23 [.slice A m cap]) : BoolsAt w A m := by
  obtain ⟨A', m', cap', e, -, -, h3⟩ := deepOk_slice Try.underlying23 h
  injection e with e
  injection e with e1 e2 e3
  subst e1 e2 e3
  intro i hi
  obtain ⟨g, o, es, e1, hg, hl, hc, hd⟩ := h3 (by rw [cells4]; decide) i hi
  rw [cells4] at hl hc
  have hd2 : ∃ b, es = [.bool b] := by
    unfold deepOk at hd
    rw [Try.underlying4] at hd
    exact hd
  obtain ⟨b, rfl⟩ := hd2
  exact ⟨g, o, b, e1, hg, by simpa using hc 0 (by omega)⟩

/-- What holds at each round's head. -/
def TurnsAt (W wr : World) (fg bl bo c : Nat) (one two : Int) : Prop :=
  ∃ (a b : Int) (F : Fr), Blk wr bl [.int .i64 a, .int .i64 b] ∧ Blk wr bo [.int .i64 one, .int .i64 two] ∧ FO W wr fg c F (fun x => x = bl ∨ x = bo) ∧ F.turns one = a ∧ F.turns two = b ∧ (0 ≤ a ∧ a ≤ 300) ∧ (0 ≤ b ∧ b ≤ 300)

theorem turns_start {T : Int → Int} {l t : Int} (ht : 0 ≤ t) : setT T l t l = t := by
  rw [setT_same]; split <;> omega
theorem turns_down (F : Fr) (l : Int) (h0 : 0 ≤ F.turns l) : (agaF F l).turns l = if F.turns l = 0 then 0 else F.turns l - 1 := by
  unfold agaF
  split
  · assumption
  · unfold begF
    dsimp only
    rw [setT_same]
    split <;> omega
theorem turns_other (F : Fr) {l k : Int} (h : k ≠ l) : (agaF F l).turns k = F.turns k := by
  unfold agaF
  split
  · rfl
  · unfold begF
    dsimp only
    rw [setT_other _ _ h]

set_option maxRecDepth 100000 in
set_option maxHeartbeats 4000000 in
theorem turns_walk (one two n m : Int) (A : Option Addr) (q cap : Nat) (w : World) (h1 : I64 one) (h2 : I64 two) (hn : 0 ≤ n ∧ n ≤ 65535) (hm : 0 ≤ m ∧ m ≤ 65535) (hp : BoolsAt w A q) :
    Calls Try.prog 3 #[.int .i64 one, .int .i64 two, .int .u16 n, .int .u16 m, .slice A q cap] w fun e w' => e = .returned (.bool true) ∧ Below w.heap.size w w' := by
  obtain ⟨n0, n1⟩ := hn
  obtain ⟨m0, m1⟩ := hm
  have HP := Lib.hid hp
  have H1 := Lib.hid h1
  have H2 := Lib.hid h2
  clear hp h1 h2
  by_cases he : one = two
  · have t1 : (one == two) = true := by simp [he]
    clear he
    go_enter Try.func3, Try.ntmps3
    go_wp2_with fail
    refine (awake_ok _).mono ?_
    rintro e w1 ⟨rfl, hb⟩
    go_wp2_with fail
    go_ret
    exact ⟨rfl, hb⟩
  have t1 : (one == two) = false := by rw [beq_eq_false_iff_ne]; exact he
  have HNE := Lib.hid he
  clear he
  by_cases hq : 700 < q
  · have t2 : (700 : Int) < (q : Int) := by omega
    go_enter Try.func3, Try.ntmps3
    go_wp2_with fail
    refine (awake_ok _).mono ?_
    rintro e w1 ⟨rfl, hb⟩
    go_wp2_with fail
    go_ret
    exact ⟨rfl, hb⟩
  have t2 : (q : Int) ≤ 700 := by omega
  go_enter Try.func3, Try.ntmps3
  go_wp2_with fail
  refine (awake_ok _).mono ?_
  rintro e w1 ⟨rfl, hb⟩
  have HB := Lib.hid hb
  clear hb
  go_wp2_with fail
  refine (fo_new w1 none none none 0 0 0 0 0 0 [] [] [] (BytesAt.nil _ _) (BytesAt.nil _ _) (VsAt.nil _ _) (by omega) (by omega) (by omega) ⟨rfl, by decide, fun i h => absurd h (by simp), fun i h => absurd h (by simp)⟩).mono ?_
  rintro e W ⟨fg, rfl, hf⟩
  obtain ⟨a0, ha0⟩ : ∃ a0, n % 301 = a0 := ⟨_, rfl⟩
  obtain ⟨b0, hb0⟩ : ∃ b0, m % 301 = b0 := ⟨_, rfl⟩
  have ra0 : 0 ≤ a0 := by omega
  have ra1 : a0 ≤ 300 := by omega
  have rb0 : 0 ≤ b0 := by omega
  have rb1 : b0 ≤ 300 := by omega
  have hf1 := (hf.alloc (.cells #[.int .i64 a0, .int .i64 b0] 29)).alloc (.cells #[.int .i64 one, .int .i64 two] 29)
  have kl := (Blk.new W #[.int .i64 a0, .int .i64 b0] 29).alloc (.cells #[.int .i64 one, .int .i64 two] 29)
  have ko := Blk.new (W.alloc (.cells #[.int .i64 a0, .int .i64 b0] 29)) #[.int .i64 one, .int .i64 two] 29
  have HF := Lib.hid (And.intro hf1 (And.intro kl ko))
  have HA0 := Lib.hid ha0
  have HB0 := Lib.hid hb0
  have hf0 := hf.bw.size
  clear hf hf1 kl ko
  go_wp2_with fail
  clear ha0 hb0
  obtain ⟨X, hX⟩ : ∃ X, (W.alloc (.cells #[.int .i64 a0, .int .i64 b0] 29)).alloc (.cells #[.int .i64 one, .int .i64 two] 29) = X := ⟨_, rfl⟩
  obtain ⟨bl, hbl⟩ : ∃ bl, W.heap.size = bl := ⟨_, rfl⟩
  obtain ⟨bo, hbo⟩ : ∃ bo, (W.alloc (.cells #[.int .i64 a0, .int .i64 b0] 29)).heap.size = bo := ⟨_, rfl⟩
  have hbo2 : bl + 1 = bo := by rw [← hbo, ← hbl]; simp
  rw [hX, hbl, hbo] at HF
  rw [hX, hbl]
  rw [show bl + 1 = bo from hbo2]
  have HFO := Lib.hid (HF.out.1.less (K' := fun x => x = bl ∨ x = bo) (by rintro b (rfl | rfl); exact .inl (.inr rfl); exact .inr rfl))
  have KL := Lib.hid HF.out.2.1
  have KO := Lib.hid HF.out.2.2
  have HNB : ¬ bl = bo := by omega
  have HNB2 : ¬ bo = bl := by omega
  have HBLW := Lib.hid (show w1.heap.size ≤ bl from by rw [hbl] at hf0; exact hf0)
  clear HF hX hbl hbo hbo2
  refine (fo_begin HFO.out one a0 H1.out ⟨by omega, by omega⟩ (by omega)).mono ?_
  rintro e X1 ⟨rfl, hf⟩
  have kl := hf.blk KL.out (.inl rfl)
  have ko := hf.blk KO.out (.inr rfl)
  have HFO := Lib.hid hf.1
  have c1 : X1.cell? ⟨bl, 1, none⟩ = some (.int .i64 b0) := kl.c 1 _ rfl
  have KL := Lib.hid kl
  have KO := Lib.hid ko
  clear hf kl ko
  go_wp2_with fail
  refine (fo_begin HFO.out two b0 H2.out ⟨by omega, by omega⟩ (by omega)).mono ?_
  rintro e X2 ⟨rfl, hf⟩
  have HT : Hid (TurnsAt w1 X2 fg bl bo 2 one two) := by
    apply Lib.hid
    refine ⟨a0, b0, _, hf.blk KL.out (.inl rfl), hf.blk KO.out (.inr rfl), hf.1.mono (by omega), ?_, ?_, ⟨ra0, ra1⟩, ⟨rb0, rb1⟩⟩
    · unfold begF
      dsimp only
      rw [setT_other _ _ HNE.out, turns_start ra0]
    · unfold begF
      dsimp only
      rw [turns_start rb0]
  clear hf KL KO HFO c1
  go_wp2_with fail
  go_loopw [15] (fun i wr => ∃ k : Nat, k ≤ q ∧ i = .int .i64 k ∧ TurnsAt w1 wr fg bl bo (2 + k) one two) (fun i _ => q - (intOf i).toNat)
  case atStart => exact ⟨0, by omega, rfl, HT.out⟩
  case round =>
    clear HT
    obtain ⟨k, hk, rfl, a, b, F, kl, ko, hf, ta, tb, ⟨a1, a2⟩, ⟨b1, b2⟩⟩ := hrel
    by_cases hlt : k < q
    · obtain ⟨g, o, x, rfl, hg, hc⟩ := HP.out k hlt
      have hd := ((HB.out.trans (hf.bw.mono HB.out.size)).cell (p := ⟨g, o + k, none⟩) hg).trans hc
      have hk1 : (k : Int) < (q : Int) := by omega
      clear hc
      have HFO := Lib.hid hf
      have KL := Lib.hid kl
      have KO := Lib.hid ko
      have TA := Lib.hid ta
      have TB := Lib.hid tb
      have l0 : wr.cell? ⟨bl, 0, none⟩ = some (.int .i64 a) := kl.c 0 _ rfl
      have l1 : wr.cell? ⟨bl, 1, none⟩ = some (.int .i64 b) := kl.c 1 _ rfl
      have o0 : wr.cell? ⟨bo, 0, none⟩ = some (.int .i64 one) := ko.c 0 _ rfl
      have o1 : wr.cell? ⟨bo, 1, none⟩ = some (.int .i64 two) := ko.c 1 _ rfl
      have f0 := kl.f 0
      have f1 := kl.f 1
      have hll := kl.l
      have hol := ko.l
      clear hf kl ko ta tb
      cases x with
      | false =>
        by_cases ha : a = 0
        · have HA := Lib.hid ha
          have z0 : decide (0 < a) = false := decide_eq_false (by omega)
          have z1 : a ≤ 0 := by omega
          have hs := fo_again HFO.out one H1.out (by omega)
          rw [TA.out, HA.out] at hs
          have HS := Lib.hid hs
          clear hs ha
          go_wp2_with fail
          refine HS.out.mono ?_
          rintro e w3 ⟨rfl, h3⟩
          have HREL : Hid (TurnsAt w1 w3 fg bl bo (2 + (k + 1)) one two) := by
            apply Lib.hid
            refine ⟨a, b, _, h3.blk KL.out (.inl rfl), h3.blk KO.out (.inr rfl), h3.1.mono (by omega), ?_, ?_, ⟨a1, a2⟩, ⟨b1, b2⟩⟩
            · rw [turns_down _ _ (by rw [TA.out]; omega), TA.out, if_pos HA.out, HA.out]
            · rw [turns_other _ (fun e => HNE.out e.symm), TB.out]
          clear h3 HS KL KO HFO TA TB l0 l1 o0 o1
          go_wp2_with fail
          go_roundw
          case rel => exact ⟨k + 1, by omega, by go_num, HREL.out⟩
          case measure => simp [intOf]; omega
        · have z0 : decide (0 < a) = true := decide_eq_true (by omega)
          have z1 : 0 < a := by omega
          have z2 : 1 ≤ a := by omega
          have HA := Lib.hid ha
          clear ha
          have HK2 := Lib.hid (KL.out.set (j := 0) (u := .int .i64 a) rfl (.int .i64 (a - 1)))
          have HO2 := Lib.hid (KO.out.other HNB 0 (.int .i64 (a - 1)))
          have HFO2 := Lib.hid (HFO.out.touch (S := fun x => x = bl) ((Touch.refl (fun x => x = bl) wr).setCell ⟨bl, 0, none⟩ (.int .i64 (a - 1)) (fun _ => rfl)) (fun x _ e => .inl e) (fun x e => by
            have e2 : x = bl := e
            have := HBLW.out
            omega))
          go_wp2_with fail
          have hs := fo_again HFO2.out one H1.out (by omega)
          rw [TA.out] at hs
          rw [z0] at hs
          refine hs.mono ?_
          rintro e w3 ⟨rfl, h3⟩
          have kl3 := h3.blk HK2.out (.inl rfl)
          have ko3 := h3.blk HO2.out (.inr rfl)
          have HREL : Hid (TurnsAt w1 w3 fg bl bo (2 + (k + 1)) one two) := by
            apply Lib.hid
            refine ⟨_, _, _, kl3, ko3, h3.1.mono (by omega), ?_, ?_, ⟨by omega, by omega⟩, ⟨by omega, by omega⟩⟩
            · rw [turns_down _ _ (by rw [TA.out]; omega), TA.out, if_neg HA.out]
            · rw [turns_other _ (fun e => HNE.out e.symm), TB.out]
          have m1 : w3.cell? ⟨bl, 0, none⟩ = some (.int .i64 (a - 1)) := kl3.c 0 _ rfl
          have hll3 := kl3.l
          clear h3 hs KL KO HFO TA TB l0 l1 o0 o1 HK2 HO2 HFO2 kl3 ko3 f0 f1
          rcases (show a = 1 ∨ 2 ≤ a by omega) with hz | hz
          · have z3 : decide (1 < a) = false := decide_eq_false (by omega)
            have z4 : decide (0 < a - 1) = false := decide_eq_false (by omega)
            have z5 : a ≤ 1 := by omega
            clear hz
            go_wp2_with fail
            go_roundw
            case rel => exact ⟨k + 1, by omega, by go_num, HREL.out⟩
            case measure => simp [intOf]; omega
          · have z3 : decide (1 < a) = true := decide_eq_true (by omega)
            have z4 : decide (0 < a - 1) = true := decide_eq_true (by omega)
            have z5 : 1 < a := by omega
            clear hz
            go_wp2_with fail
            go_roundw
            case rel => exact ⟨k + 1, by omega, by go_num, HREL.out⟩
            case measure => simp [intOf]; omega
      | true =>
        by_cases ha : b = 0
        · have HA := Lib.hid ha
          have z0 : decide (0 < b) = false := decide_eq_false (by omega)
          have z1 : b ≤ 0 := by omega
          have hs := fo_again HFO.out two H2.out (by omega)
          rw [TB.out, HA.out] at hs
          have HS := Lib.hid hs
          clear hs ha
          go_wp2_with fail
          refine HS.out.mono ?_
          rintro e w3 ⟨rfl, h3⟩
          have HREL : Hid (TurnsAt w1 w3 fg bl bo (2 + (k + 1)) one two) := by
            apply Lib.hid
            refine ⟨a, b, _, h3.blk KL.out (.inl rfl), h3.blk KO.out (.inr rfl), h3.1.mono (by omega), ?_, ?_, ⟨a1, a2⟩, ⟨b1, b2⟩⟩
            · rw [turns_other _ HNE.out, TA.out]
            · rw [turns_down _ _ (by rw [TB.out]; omega), TB.out, if_pos HA.out, HA.out]
          clear h3 HS KL KO HFO TA TB l0 l1 o0 o1
          go_wp2_with fail
          go_roundw
          case rel => exact ⟨k + 1, by omega, by go_num, HREL.out⟩
          case measure => simp [intOf]; omega
        · have z0 : decide (0 < b) = true := decide_eq_true (by omega)
          have z1 : 0 < b := by omega
          have z2 : 1 ≤ b := by omega
          have HA := Lib.hid ha
          clear ha
          have HK2 := Lib.hid (KL.out.set (j := 1) (u := .int .i64 b) rfl (.int .i64 (b - 1)))
          have HO2 := Lib.hid (KO.out.other HNB 1 (.int .i64 (b - 1)))
          have HFO2 := Lib.hid (HFO.out.touch (S := fun x => x = bl) ((Touch.refl (fun x => x = bl) wr).setCell ⟨bl, 1, none⟩ (.int .i64 (b - 1)) (fun _ => rfl)) (fun x _ e => .inl e) (fun x e => by
            have e2 : x = bl := e
            have := HBLW.out
            omega))
          go_wp2_with fail
          have hs := fo_again HFO2.out two H2.out (by omega)
          rw [TB.out] at hs
          rw [z0] at hs
          refine hs.mono ?_
          rintro e w3 ⟨rfl, h3⟩
          have kl3 := h3.blk HK2.out (.inl rfl)
          have ko3 := h3.blk HO2.out (.inr rfl)
          have HREL : Hid (TurnsAt w1 w3 fg bl bo (2 + (k + 1)) one two) := by
            apply Lib.hid
            refine ⟨_, _, _, kl3, ko3, h3.1.mono (by omega), ?_, ?_, ⟨by omega, by omega⟩, ⟨by omega, by omega⟩⟩
            · rw [turns_other _ HNE.out, TA.out]
            · rw [turns_down _ _ (by rw [TB.out]; omega), TB.out, if_neg HA.out]
          have m1 : w3.cell? ⟨bl, 1, none⟩ = some (.int .i64 (b - 1)) := kl3.c 1 _ rfl
          have hll3 := kl3.l
          clear h3 hs KL KO HFO TA TB l0 l1 o0 o1 HK2 HO2 HFO2 kl3 ko3 f0 f1
          rcases (show b = 1 ∨ 2 ≤ b by omega) with hz | hz
          · have z3 : decide (1 < b) = false := decide_eq_false (by omega)
            have z4 : decide (0 < b - 1) = false := decide_eq_false (by omega)
            have z5 : b ≤ 1 := by omega
            clear hz
            go_wp2_with fail
            go_roundw
            case rel => exact ⟨k + 1, by omega, by go_num, HREL.out⟩
            case measure => simp [intOf]; omega
          · have z3 : decide (1 < b) = true := decide_eq_true (by omega)
            have z4 : decide (0 < b - 1) = true := decide_eq_true (by omega)
            have z5 : 1 < b := by omega
            clear hz
            go_wp2_with fail
            go_roundw
            case rel => exact ⟨k + 1, by omega, by go_num, HREL.out⟩
            case measure => simp [intOf]; omega
    · obtain rfl : k = q := by omega
      have HFO := Lib.hid hf.bw
      clear kl ko hf ta tb
      go_wp2_with fail
      go_ret
      exact ⟨rfl, HB.out.trans (HFO.out.mono HB.out.size)⟩

end Go.Proofs.Ythllfeogchbihaa
