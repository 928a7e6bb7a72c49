/- MemPlays: tells. -/
import Derived.Test.YthllfeogchbihacMemPa
import Derived.Test.YthllfeogchbihacMemZ
import Derived.Deep.DeepCutAuto
import Derived.Lib.QuietBelow
import Derived.BigQuiet
namespace Go.Proofs.Ythllfeogchbihac
open Go.RowKit
open Go.Sort
set_option linter.unusedSimpArgs false
set_option linter.unusedVariables false
section
variable {w W : World} {mg rg : Nat} {M R : Me} {xs ys : List Int} {K : Nat → List Value → Prop}
theorem po_told (h : PO w W mg rg M R xs ys K) (p : Int) : Calls Try.prog 22 #[.pointer (some ⟨mg, 0, none⟩), .int .i64 p] W fun e W' => e = .returned (.tuple #[aagg (M.proc p), .int .i64 (M.proc p).pos]) ∧ Below W.heap.size W W' := by
  obtain ⟨Kx, h1, -⟩ := h.prog
  exact mo_told h1 p
theorem po_steps (h : PO w W mg rg M R xs ys K) (p : Int) : Calls Try.prog 25 #[.pointer (some ⟨mg, 0, none⟩), .int .i64 p] W fun e W' => e = .returned (.int .i64 (M.proc p).st) ∧ W' = W := by
  obtain ⟨Kx, h1, -⟩ := h.prog
  exact mo_steps h1 p
theorem po_held (h : PO w W mg rg M R xs ys K) (p : Int) : Calls Try.prog 13 #[.pointer (some ⟨mg, 0, none⟩), .int .i64 p] W fun e W' => e = .returned (sagg (M.slot p)) ∧ Below W.heap.size W W' := by
  obtain ⟨Kx, h1, -⟩ := h.prog
  exact mo_held h1 p
theorem po_procs (h : PO w W mg rg M R xs ys K) : Calls Try.prog 26 #[.pointer (some ⟨mg, 0, none⟩)] W fun e W' => e = .returned (.int .i64 M.pr.length) ∧ W' = W := by
  obtain ⟨Kx, h1, -⟩ := h.prog
  exact mo_procs h1
theorem po_arena (h : PO w W mg rg M R xs ys K) : Calls Try.prog 27 #[.pointer (some ⟨mg, 0, none⟩)] W fun e W' => e = .returned (.int .i64 M.sl.length) ∧ W' = W := by
  obtain ⟨Kx, h1, -⟩ := h.prog
  exact mo_arena h1
theorem po_has (h : PO w W mg rg M R xs ys K) (p : Int) : Calls Try.prog 46 #[.pointer (some ⟨rg, 0, none⟩), .int .i64 p] W fun e W' => e = .returned (.bool (hasB R.pr.length p)) ∧ W' = W := by
  obtain ⟨ag, bg, cg, dg, h1, -⟩ := h.ref
  exact r_has h1 p
theorem same_call {P : Program} {f : FuncId} {args : Array Value} {V : World} {v : Value} (h : Calls P f args V fun e W' => e = .returned v ∧ W' = V) : Calls P f args V fun e W' => e = .returned v ∧ Below V.heap.size V W' := by
  refine h.mono ?_
  rintro e W' ⟨rfl, rfl⟩
  exact ⟨rfl, Below.refl _ _⟩
/-- What the first loop reads of the document's. -/
theorem po_row (h : PO w W mg rg M R xs ys K) (hE : EqR M R) {i : Nat} (hi : i < M.pr.length) : ∃ ag bg cg, W.cell? ⟨rg, 0, none⟩ = some (.slice (some ⟨ag, 0, none⟩) M.pr.length M.pr.length) ∧ W.cell? ⟨rg, 1, none⟩ = some (.slice (some ⟨bg, 0, none⟩) M.pr.length M.pr.length) ∧ W.cell? ⟨rg, 2, none⟩ = some (.slice (some ⟨cg, 0, none⟩) M.pr.length M.pr.length) ∧
    W.cell? ⟨ag, i * 5, none⟩ = some (.int .i64 (M.proc i).s) ∧ W.cell? ⟨ag, i * 5 + 1, none⟩ = some (.int .u8 (M.proc i).k) ∧ W.cell? ⟨ag, i * 5 + 2, none⟩ = some (.int .i64 (M.proc i).m) ∧ W.cell? ⟨ag, i * 5 + 3, none⟩ = some (.slice none 0 0) ∧ W.cell? ⟨ag, i * 5 + 4, none⟩ = some (.slice none 0 0) ∧
    W.cell? ⟨bg, i, none⟩ = some (.int .i64 (M.proc i).pos) ∧ W.cell? ⟨cg, i, none⟩ = some (.int .i64 (M.proc i).st) := by
  obtain ⟨ag, bg, cg, dg, h1, -⟩ := h.ref
  have hi2 : i < R.pr.length := by rw [← hE.1]; exact hi
  rw [hE.proc, hE.1, Me.proc_yes hi2]
  exact ⟨ag, bg, cg, h1.br.c 0 _ rfl, h1.br.c 1 _ rfl, h1.br.c 2 _ rfl, h1.acell hi2 0 _ (by decide) rfl, h1.acell hi2 1 _ (by decide) rfl, h1.acell hi2 2 _ (by decide) rfl, h1.acell hi2 3 _ (by decide) rfl, h1.acell hi2 4 _ (by decide) rfl, h1.bcell hi2, h1.ccell hi2⟩
theorem po_len (h : PO w W mg rg M R xs ys K) (hE : EqR M R) : ∃ bg dg, W.cell? ⟨rg, 1, none⟩ = some (.slice (some ⟨bg, 0, none⟩) M.pr.length M.pr.length) ∧ W.cell? ⟨rg, 3, none⟩ = some (.slice (some ⟨dg, 0, none⟩) M.sl.length M.sl.length) ∧ rg < W.heap.size ∧ M.pr.length ≤ 64 ∧ M.sl.length ≤ 256 := by
  obtain ⟨ag, bg, cg, dg, h1, -⟩ := h.ref
  rw [hE.1, hE.2.1]
  exact ⟨bg, dg, h1.br.c 1 _ rfl, h1.br.c 3 _ rfl, h1.br.l, h1.lp, h1.ls⟩
theorem po_srow (h : PO w W mg rg M R xs ys K) (hE : EqR M R) {i : Nat} (hi : i < M.sl.length) : ∃ dg, W.cell? ⟨rg, 3, none⟩ = some (.slice (some ⟨dg, 0, none⟩) M.sl.length M.sl.length) ∧ (∀ q v, q < 7 → (M.slot i).cs[q]? = some v → W.cell? ⟨dg, i * 7 + q, none⟩ = some v) := by
  obtain ⟨ag, bg, cg, dg, h1, -⟩ := h.ref
  have hi2 : i < R.sl.length := by rw [← hE.2.1]; exact hi
  rw [hE.slot, hE.2.1, Me.slot_yes hi2]
  exact ⟨dg, h1.br.c 3 _ rfl, fun q v hq hv => h1.dcell hi2 q v hq hv⟩
set_option maxRecDepth 100000 in
set_option maxHeartbeats 8000000 in
theorem tells_ok (h : PO w W mg rg M R xs ys K) (hE : EqR M R) : Calls Try.prog 18 #[.pointer (some ⟨mg, 0, none⟩), .pointer (some ⟨rg, 0, none⟩)] W fun e W' => e = .returned (.bool true) ∧ Below W.heap.size W W' := by
  have HB : Hid (∀ V, Below W.heap.size W V → PO w V mg rg M R xs ys K) := Lib.hid (fun V hb => h.below hb)
  obtain ⟨-, -, -, -, -, n1, n2⟩ := po_len h hE
  have HQ := Lib.hid hE
  obtain ⟨np, hnp⟩ : ∃ np, M.pr.length = np := ⟨_, rfl⟩
  obtain ⟨ns, hns⟩ : ∃ ns, M.sl.length = ns := ⟨_, rfl⟩
  rw [hnp] at n1
  rw [hns] at n2
  have HNP := Lib.hid hnp
  have HNS := Lib.hid hns
  have hfd := field47
  clear h hE hnp hns
  go_enter Try.func18, Try.ntmps18
  go_wp2_with fail
  go_loopw [5] (fun i wr => ∃ z : Int, -1 ≤ z ∧ z ≤ np + 1 ∧ i = .int .i64 z ∧ Below W.heap.size W wr) (fun i _ => ((np : Int) + 1 - intOf i).toNat)
  case atStart => exact ⟨-1, by omega, by omega, rfl, Below.refl _ _⟩
  case round =>
    obtain ⟨z, hz1, hz2, rfl, hwr⟩ := hrel
    have HW := Lib.hid hwr
    have HPO := Lib.hid (HB.out _ hwr)
    obtain ⟨bg, dg, c1, -, rl, -, -⟩ := po_len HPO.out HQ.out
    rw [HNP.out] at c1
    clear hwr
    by_cases hlt : z ≤ np
    · have HT := Lib.hid (po_told HPO.out z)
      obtain ⟨x, hx⟩ : ∃ x, M.proc z = x := ⟨_, rfl⟩
      have HX := Lib.hid hx
      rw [hx] at HT
      unfold aagg at HT
      clear hx
      go_wp2_with fail
      refine HT.out.mono ?_
      rintro e w4 ⟨rfl, hb4⟩
      obtain ⟨V, hV⟩ : ∃ V, w4.alloc (.cells #[.int .i64 x.s, .int .u8 x.k, .int .i64 x.m, .slice none 0 0, .slice none 0 0] 68) = V := ⟨_, rfl⟩
      obtain ⟨b6, hb6⟩ : ∃ b6, w4.heap.size = b6 := ⟨_, rfl⟩
      have hbV : Below W.heap.size W V := by
        rw [← hV]
        exact below_next (below_next HW.out hb4) ((Below.refl _ _).alloc (Nat.le_refl _) _)
      have kk : Blk V b6 [.int .i64 x.s, .int .u8 x.k, .int .i64 x.m, .slice none 0 0, .slice none 0 0] := by rw [← hV, ← hb6]; exact Blk.new _ _ _
      have HVB := Lib.hid hbV
      have s0 := kk.c 0 _ rfl
      have s1 := kk.c 1 _ rfl
      have s2 := kk.c 2 _ rfl
      have s3 := kk.c 3 _ rfl
      have s4 := kk.c 4 _ rfl
      have sl := kk.l
      have HH := Lib.hid (po_has (HB.out _ hbV) z)
      rw [← HQ.out.1, HNP.out] at HH
      have HVV := Lib.hid (And.intro hV hb6)
      clear hb4 hbV kk hV hb6 c1 HT
      go_upto_region 5 with fail
      rw [HVV.out.1, HVV.out.2]
      clear HVV
      cases hb : hasB np z with
      | false =>
        rw [hb] at HH
        have hx0 : x = zp := by rw [← HX.out]; exact Me.proc_no (by rw [HNP.out]; exact hb)
        subst hx0
        have HST := Lib.hid (po_steps (HB.out _ HVB.out) z)
        rw [HX.out] at HST
        unfold zp at *
        dsimp only at *
        go_wp2_with fail
        refine HH.out.mono ?_
        rintro e w5 ⟨rfl, rfl⟩
        go_wp2_with fail
        refine HST.out.mono ?_
        rintro e w6 ⟨rfl, rfl⟩
        go_wp2_with fail
        go_roundw
        case rel => exact ⟨z + 1, by omega, by omega, rfl, HVB.out⟩
        case measure => simp [intOf]; omega
      | true =>
        rw [hb] at HH
        obtain ⟨i, rfl, hi⟩ := hasB_yes hb
        have hil : i < M.pr.length := by rw [HNP.out]; exact hi
        obtain ⟨ag, bg, cg, e0, e1, e2, g0, g1, g2, g3, g4, g5, g6⟩ := po_row (HB.out _ HVB.out) HQ.out hil
        rw [HNP.out] at e0 e1 e2
        rw [HX.out] at g0 g1 g2 g5 g6
        have in1 : (i : Int) < (np : Int) := by omega
        have hStep : ∀ d os, Below W.heap.size W (grow (redrawn V d) os) := fun d os => below_next HVB.out (below_regrown V d os)
        have cS : ∀ d os, Calls Try.prog 25 #[.pointer (some ⟨mg, 0, none⟩), .int .i64 i] (grow (redrawn V d) os) fun e w'' => e = .returned (.int .i64 x.st) ∧ ∃ p : Regrown, w'' = grow (redrawn V p.d) p.os := fun d os => Calls.regrown_of (by
          have := po_steps (HB.out _ (hStep d os)) (i : Int)
          rw [HX.out] at this
          exact same_call this)
        have cA : ∀ d os, Calls Try.prog 37 #[.agg #[.int .i64 x.s, .int .u8 x.k, .int .i64 x.m, .slice none 0 0, .slice none 0 0], .agg #[.int .i64 x.s, .int .u8 x.k, .int .i64 x.m, .slice none 0 0, .slice none 0 0]] (grow (redrawn V d) os) fun e w'' => e = .returned (.bool true) ∧ ∃ p : Regrown, w'' = grow (redrawn V p.d) p.os := fun d os => Calls.regrown_of (same_ann _ x)
        have CS := Lib.hid cS
        have CA := Lib.hid cA
        clear cS cA hStep hb hil
        go_wp2_with fail
        refine HH.out.mono ?_
        rintro e w5 ⟨rfl, rfl⟩
        go_upto_region 8 with fail
        go_cut [74] (fun s wx => s = .bool false ∧ Below w5.heap.size w5 wx)
        case first =>
          as_aux_lemma =>
          have k0 := cell_regrown e0
          have k1 := cell_regrown e1
          have k2 := cell_regrown e2
          have k3 := cell_regrown g0
          have k4 := cell_regrown g1
          have k5 := cell_regrown g2
          have k6 := cell_regrown g3
          have k7 := cell_regrown g4
          have k8 := cell_regrown g5
          have k9 := cell_regrown g6
          have l0 := cell_regrown s0
          have l1 := cell_regrown s1
          have l2 := cell_regrown s2
          have l3 := cell_regrown s3
          have l4 := cell_regrown s4
          have q1 : (x.pos != x.pos) = false := by simp
          have q2 : (x.st != x.st) = false := by simp
          clear e0 e1 e2 g0 g1 g2 g3 g4 g5 g6 s0 s1 s2 s3 s4
          refine wp_region_quiet_below (by kernel_rfl) (by kernel_rfl) ?_
          repeat (first | go_big_quiet_step (first | exact CS.out _ _ | exact CA.out _ _) | quiet_step (first | exact CS.out _ _ | exact CA.out _ _))
          refine wpQuiet_nil ?_
          intro _ hw'
          obtain ⟨⟨dq, osq⟩, hw''⟩ := hw'
          subst hw''
          go_wp2_with fail
          go_meet
          exact ⟨by simp, below_regrown w5 dq osq⟩
        case rest =>
          as_aux_lemma =>
          obtain ⟨rfl, hcut⟩ := hcut
          have HC := Lib.hid (below_next HVB.out hcut)
          clear hcut
          go_wp2_with fail
          go_roundw
          case rel => exact ⟨(i : Int) + 1, by omega, by omega, rfl, HC.out⟩
          case measure => simp [intOf]; omega
    · obtain ⟨bg, dg, c1, c3, rl, -, -⟩ := po_len HPO.out HQ.out
      rw [HNP.out] at c1
      rw [HNS.out] at c3
      have hzz : ¬ z ≤ (np : Int) := hlt
      go_wp2_with fail
      go_loopw [8] (fun i wx => ∃ j : Nat, j ≤ ns ∧ i = .int .i64 j ∧ Below W.heap.size W wx) (fun i _ => ns - (intOf i).toNat)
      case atStart => exact ⟨0, by omega, rfl, HW.out⟩
      case round =>
        obtain ⟨j, hj, rfl, hwx⟩ := hrel
        have HX := Lib.hid hwx
        clear c1 c3 rl
        obtain ⟨bg', dg', c1, c3, rl, -, -⟩ := po_len (HB.out _ hwx) HQ.out
        rw [HNP.out] at c1
        rw [HNS.out] at c3
        have hStep : ∀ d os, Below W.heap.size W (grow (redrawn (wr.drewN 0) d) os) → True := fun _ _ _ => trivial
        clear hStep
        by_cases hjn : j < ns
        · have hjl : j < M.sl.length := by rw [HNS.out]; exact hjn
          obtain ⟨dg2, e3, hs⟩ := po_srow (HB.out _ hwx) HQ.out hjl
          rw [HNS.out] at e3
          obtain ⟨x, hx⟩ : ∃ x, M.slot (j : Int) = x := ⟨_, rfl⟩
          rw [hx] at hs
          have hnext : ∀ V, Below wr.heap.size wr V → Below W.heap.size W V := fun V hb => below_next hwx hb
          have cH : ∀ d os, Calls Try.prog 13 #[.pointer (some ⟨mg, 0, none⟩), .int .i64 j] (grow (redrawn wr d) os) fun e w'' => e = .returned (.agg #[.int .i64 x.i, .int .i64 x.p, .int .i64 x.s, .int .u8 x.k, .int .i64 x.m, .slice none 0 0, .slice none 0 0]) ∧ ∃ p : Regrown, w'' = grow (redrawn wr p.d) p.os := fun d os => Calls.regrown_of (by
            have := po_held (HB.out _ (hnext _ (below_regrown wr d os))) (j : Int)
            rw [hx] at this
            exact this)
          have cA : ∀ d os, Calls Try.prog 41 #[.agg #[.int .i64 x.i, .int .i64 x.p, .int .i64 x.s, .int .u8 x.k, .int .i64 x.m, .slice none 0 0, .slice none 0 0], .agg #[.int .i64 x.i, .int .i64 x.p, .int .i64 x.s, .int .u8 x.k, .int .i64 x.m, .slice none 0 0, .slice none 0 0]] (grow (redrawn wr d) os) fun e w'' => e = .returned (.bool true) ∧ ∃ p : Regrown, w'' = grow (redrawn wr p.d) p.os := fun d os => Calls.regrown_of (same_slot _ x)
          have CH := Lib.hid cH
          have CA := Lib.hid cA
          have s0 := hs 0 _ (by decide) rfl
          rw [Nat.add_zero] at s0
          have s1 := hs 1 _ (by decide) rfl
          have s2 := hs 2 _ (by decide) rfl
          have s3 := hs 3 _ (by decide) rfl
          have s4 := hs 4 _ (by decide) rfl
          have s5 := hs 5 _ (by decide) rfl
          have s6 := hs 6 _ (by decide) rfl
          have jn : (j : Int) < (ns : Int) := by omega
          clear cH cA hnext hs hx hjl hwx
          go_upto_region 13 with fail
          go_cut [95] (fun s wx => s = .bool false ∧ Below wr.heap.size wr wx)
          case first =>
            as_aux_lemma =>
            have k0 := cell_regrown s0
            have k1 := cell_regrown s1
            have k2 := cell_regrown s2
            have k3 := cell_regrown s3
            have k4 := cell_regrown s4
            have k5 := cell_regrown s5
            have k6 := cell_regrown s6
            have k7 := cell_regrown e3
            clear s0 s1 s2 s3 s4 s5 s6 e3 c1 c3
            refine wp_region_quiet_below (by kernel_rfl) (by kernel_rfl) ?_
            repeat (first | go_big_quiet_step (first | exact CH.out _ _ | exact CA.out _ _) | quiet_step (first | exact CH.out _ _ | exact CA.out _ _))
            refine wpQuiet_nil ?_
            intro _ hw'
            obtain ⟨⟨dq, osq⟩, hw''⟩ := hw'
            subst hw''
            go_wp2_with fail
            go_meet
            exact ⟨by simp, below_regrown wr dq osq⟩
          case rest =>
            as_aux_lemma =>
            obtain ⟨rfl, hcut⟩ := hcut
            have HC := Lib.hid (below_next HX.out hcut)
            clear hcut c1 c3 s0 s1 s2 s3 s4 s5 s6 e3
            go_wp2_with fail
            go_roundw
            case rel => exact ⟨j + 1, by omega, by go_num, HC.out⟩
            case measure => first | (simp [intOf]; done) | (simp [intOf]; omega)
        · obtain rfl : ns = j := by omega
          have hnext : ∀ V, Below wr.heap.size wr V → Below W.heap.size W V := fun V hb => below_next hwx hb
          have z1 : M.slot (-1) = zs := Me.slot_no (by unfold hasB; exact decide_eq_false (fun e => by omega))
          have z2 : M.slot (ns : Int) = zs := Me.slot_no (by rw [HNS.out]; unfold hasB; exact decide_eq_false (fun e => by omega))
          have cH1 : ∀ d os, Calls Try.prog 13 #[.pointer (some ⟨mg, 0, none⟩), .int .i64 (-1)] (grow (redrawn wr d) os) fun e w'' => e = .returned (.agg #[.int .i64 0, .int .i64 0, .int .i64 0, .int .u8 0, .int .i64 0, .slice none 0 0, .slice none 0 0]) ∧ ∃ p : Regrown, w'' = grow (redrawn wr p.d) p.os := fun d os => Calls.regrown_of (by
            have := po_held (HB.out _ (hnext _ (below_regrown wr d os))) (-1)
            rw [z1] at this
            exact this)
          have cH2 : ∀ d os, Calls Try.prog 13 #[.pointer (some ⟨mg, 0, none⟩), .int .i64 ns] (grow (redrawn wr d) os) fun e w'' => e = .returned (.agg #[.int .i64 0, .int .i64 0, .int .i64 0, .int .u8 0, .int .i64 0, .slice none 0 0, .slice none 0 0]) ∧ ∃ p : Regrown, w'' = grow (redrawn wr p.d) p.os := fun d os => Calls.regrown_of (by
            have := po_held (HB.out _ (hnext _ (below_regrown wr d os))) ns
            rw [z2] at this
            exact this)
          have cP : ∀ d os, Calls Try.prog 26 #[.pointer (some ⟨mg, 0, none⟩)] (grow (redrawn wr d) os) fun e w'' => e = .returned (.int .i64 np) ∧ ∃ p : Regrown, w'' = grow (redrawn wr p.d) p.os := fun d os => Calls.regrown_of (by
            have := po_procs (HB.out _ (hnext _ (below_regrown wr d os)))
            rw [HNP.out] at this
            exact same_call this)
          have cQ : ∀ d os, Calls Try.prog 27 #[.pointer (some ⟨mg, 0, none⟩)] (grow (redrawn wr d) os) fun e w'' => e = .returned (.int .i64 ns) ∧ ∃ p : Regrown, w'' = grow (redrawn wr p.d) p.os := fun d os => Calls.regrown_of (by
            have := po_arena (HB.out _ (hnext _ (below_regrown wr d os)))
            rw [HNS.out] at this
            exact same_call this)
          have C1 := Lib.hid cH1
          have C2 := Lib.hid cH2
          have C3 := Lib.hid cP
          have C4 := Lib.hid cQ
          have k1 := cell_regrown c1
          have k3 := cell_regrown c3
          clear cH1 cH2 cP cQ hnext z1 z2 hwx
          go_upto_region 15 with fail
          clear c1 c3
          refine wp_region_quiet_below (by kernel_rfl) (by kernel_rfl) ?_
          repeat (first | go_big_quiet_step (first | with_reducible exact C1.out _ _ | with_reducible exact C2.out _ _ | with_reducible exact C3.out _ _ | with_reducible exact C4.out _ _) | quiet_step (first | with_reducible exact C1.out _ _ | with_reducible exact C2.out _ _ | with_reducible exact C3.out _ _ | with_reducible exact C4.out _ _))
          refine wpQuiet_nil ?_
          intro _ hw'
          obtain ⟨⟨dq, osq⟩, hw''⟩ := hw'
          subst hw''
          go_wp2_with fail
          go_ret
          exact ⟨by simp, below_next HX.out (below_regrown wr dq osq)⟩
#print axioms tells_ok
end
end Go.Proofs.Ythllfeogchbihac
