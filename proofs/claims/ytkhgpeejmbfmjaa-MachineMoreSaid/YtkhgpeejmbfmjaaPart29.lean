/- Parts of the walk, joined. -/
import Derived.Test.YtkhgpeejmbfmjaaPart28
/- A call: its walk. -/
namespace Go.Proofs.Ytkhgpeejmbfmjaa
open Go.RowKit
set_option linter.unusedSimpArgs false
set_option linter.unusedVariables false
set_option maxRecDepth 100000
section
variable {w0 W : World} {X : Sx} {rb : Nat} {fgs : List Nat} {c : Nat} {s : Mc} {K : Nat → Prop} {fg : Nat}

theorem RunAt.used (h : RunAt w0 W X rb fgs c s K) : Calls Try.prog 15 #[.pointer (some ⟨X.gh, 0, none⟩)] W fun e W' => e = .returned (.int .i64 s.hp.flatten.length) ∧ Below W.heap.size W W' := by
  obtain ⟨gw, KH, -, -, h1, -⟩ := h.heap
  exact hx_used h1
/-- The cells that a call's results are read from. -/
def RB7 (rb : Nat) (o : Int × V) (a b d : Int) (w : World) : Prop := w.cell? ⟨rb, 16, none⟩ = some (.int .i64 o.1) ∧ w.cell? ⟨rb, 17, none⟩ = some (.int .u8 o.2.1) ∧ w.cell? ⟨rb, 18, none⟩ = some (.int .i64 o.2.2.1) ∧ w.cell? ⟨rb, 19, none⟩ = some (.int .i64 o.2.2.2) ∧
  w.cell? ⟨rb, 11, none⟩ = some (.int .i64 a) ∧ w.cell? ⟨rb, 12, none⟩ = some (.int .i64 b) ∧ w.cell? ⟨rb, 13, none⟩ = some (.int .i64 d)
theorem rb7_lt {o : Int × V} {a b d : Int} {w : World} (h : RB7 rb o a b d w) : rb < w.heap.size := World.block_lt_of_cell? w ⟨rb, 16, none⟩ h.1
theorem rb7_drew {o : Int × V} {a b d : Int} {w : World} (h : RB7 rb o a b d w) : RB7 rb o a b d w.drew := h
theorem rb7_below {o : Int × V} {a b d : Int} {w w' : World} (h : RB7 rb o a b d w) (hb : Below w.heap.size w w') : RB7 rb o a b d w' := by
  have k := rb7_lt h
  obtain ⟨h1, h2, h3, h4, h5, h6, h7⟩ := h
  exact ⟨(hb.cell (p := ⟨rb, _, none⟩) k).trans h1, (hb.cell (p := ⟨rb, _, none⟩) k).trans h2, (hb.cell (p := ⟨rb, _, none⟩) k).trans h3, (hb.cell (p := ⟨rb, _, none⟩) k).trans h4, (hb.cell (p := ⟨rb, _, none⟩) k).trans h5, (hb.cell (p := ⟨rb, _, none⟩) k).trans h6, (hb.cell (p := ⟨rb, _, none⟩) k).trans h7⟩
theorem rb7_set {o : Int × V} {a b d : Int} {w : World} (h : RB7 rb o a b d w) {x : Nat} (hx : x ≠ rb) (j : Nat) (v : Value) : RB7 rb o a b d (w.setCell ⟨x, j, none⟩ v) := by
  obtain ⟨h1, h2, h3, h4, h5, h6, h7⟩ := h
  have k : ∀ i, (w.setCell ⟨x, j, none⟩ v).cell? ⟨rb, i, none⟩ = w.cell? ⟨rb, i, none⟩ := fun i => World.cell?_setCell_other _ _ _ _ (by intro e; injection e with e1; omega)
  exact ⟨(k _).trans h1, (k _).trans h2, (k _).trans h3, (k _).trans h4, (k _).trans h5, (k _).trans h6, (k _).trans h7⟩
def RB8 (rb : Nat) (o : Int × V) (a b d : Int) (g7 : Value) (w : World) : Prop := w.cell? ⟨rb, 16, none⟩ = some (.int .i64 o.1) ∧ w.cell? ⟨rb, 17, none⟩ = some (.int .u8 o.2.1) ∧ w.cell? ⟨rb, 18, none⟩ = some (.int .i64 o.2.2.1) ∧ w.cell? ⟨rb, 19, none⟩ = some (.int .i64 o.2.2.2) ∧
  w.cell? ⟨rb, 11, none⟩ = some (.int .i64 a) ∧ w.cell? ⟨rb, 12, none⟩ = some (.int .i64 b) ∧ w.cell? ⟨rb, 13, none⟩ = some (.int .i64 d) ∧ w.cell? ⟨rb, 7, none⟩ = some g7
theorem rb8_lt {o : Int × V} {a b d : Int} {g7 : Value} {w : World} (h : RB8 rb o a b d g7 w) : rb < w.heap.size := World.block_lt_of_cell? w ⟨rb, 16, none⟩ h.1
theorem rb8_drew {o : Int × V} {a b d : Int} {g7 : Value} {w : World} (h : RB8 rb o a b d g7 w) : RB8 rb o a b d g7 w.drew := h
theorem rb8_below {o : Int × V} {a b d : Int} {g7 : Value} {w w' : World} (h : RB8 rb o a b d g7 w) (hb : Below w.heap.size w w') : RB8 rb o a b d g7 w' := by
  have k := rb8_lt h
  obtain ⟨h1, h2, h3, h4, h5, h6, h7, h8⟩ := h
  exact ⟨(hb.cell (p := ⟨rb, _, none⟩) k).trans h1, (hb.cell (p := ⟨rb, _, none⟩) k).trans h2, (hb.cell (p := ⟨rb, _, none⟩) k).trans h3, (hb.cell (p := ⟨rb, _, none⟩) k).trans h4, (hb.cell (p := ⟨rb, _, none⟩) k).trans h5, (hb.cell (p := ⟨rb, _, none⟩) k).trans h6, (hb.cell (p := ⟨rb, _, none⟩) k).trans h7, (hb.cell (p := ⟨rb, _, none⟩) k).trans h8⟩
theorem rb8_set {o : Int × V} {a b d : Int} {g7 : Value} {w : World} (h : RB8 rb o a b d g7 w) {x : Nat} (hx : x ≠ rb) (j : Nat) (v : Value) : RB8 rb o a b d g7 (w.setCell ⟨x, j, none⟩ v) := by
  obtain ⟨h1, h2, h3, h4, h5, h6, h7, h8⟩ := h
  have k : ∀ i, (w.setCell ⟨x, j, none⟩ v).cell? ⟨rb, i, none⟩ = w.cell? ⟨rb, i, none⟩ := fun i => World.cell?_setCell_other _ _ _ _ (by intro e; injection e with e1; omega)
  exact ⟨(k _).trans h1, (k _).trans h2, (k _).trans h3, (k _).trans h4, (k _).trans h5, (k _).trans h6, (k _).trans h7, (k _).trans h8⟩
def RB14 (rb : Nat) (e : Int) (w : World) : Prop := w.cell? ⟨rb, 14, none⟩ = some (.int .i64 e)
theorem rb14_drew {e : Int} {w : World} (h : RB14 rb e w) : RB14 rb e w.drew := h
theorem rb14_set {e : Int} {w : World} (h : RB14 rb e w) {x : Nat} (hx : x ≠ rb) (j : Nat) (v : Value) : RB14 rb e (w.setCell ⟨x, j, none⟩ v) := (World.cell?_setCell_other _ _ _ _ (by intro e; injection e with e1; omega)).trans h
theorem gl_drew {l : List V} {A : Option Addr} {n : Nat} {w : World} (h : l = [] ∨ ∃ g, A = some ⟨g, 0, none⟩ ∧ n ≤ g ∧ Blk w g (vcs l)) : l = [] ∨ ∃ g, A = some ⟨g, 0, none⟩ ∧ n ≤ g ∧ Blk w.drew g (vcs l) := by
  rcases h with h | ⟨g, h1, h2, h3⟩
  · exact .inl h
  · exact .inr ⟨g, h1, h2, h3.drew⟩
/-- What a run that has ended comes to. -/
def resOf (t : Mc) (gs : List V) : List V × (Int × V) × (Int × Int × Int) × Int := if t.e ≠ 0 then ([], (0, zv), (0, 0, 0), t.e) else (if t.out.1 ≠ 0 then gs else t.gl, t.out, (t.fu, t.st, t.hp.flatten.length), 0)
theorem resOf_err {t : Mc} (gs : List V) (h : t.e ≠ 0) : resOf t gs = ([], (0, zv), (0, 0, 0), t.e) := if_pos h
theorem resOf_trap {t : Mc} (gs : List V) (h : t.e = 0) (ho : t.out.1 ≠ 0) : resOf t gs = (gs, t.out, (t.fu, t.st, (t.hp.flatten.length : Int)), 0) := by
  unfold resOf
  rw [if_neg (fun z => z h), if_pos ho]
theorem resOf_ok {t : Mc} (gs : List V) (h : t.e = 0) (ho : t.out.1 = 0) : resOf t gs = (t.gl, t.out, (t.fu, t.st, (t.hp.flatten.length : Int)), 0) := by
  unfold resOf
  rw [if_neg (fun z => z h), if_neg (fun z => z ho)]
set_option maxHeartbeats 8000000 in
theorem run_yes {Mg : Option Addr} {nmg cmg : Nat} {mgs : List V} {Aa : Option Addr} {na ca : Nat} {vs : List V} {Ab : Option Addr} {ng cb : Nat} {gs : List V} (h : Given W X Mg nmg cmg mgs Aa na vs Ab ng gs) (i : Int) (hb : beginB X.m i vs gs X.l = true) (hfuel : X.l.fuel ≤ 20000) : Calls Try.prog 8 #[modV X, .int .i64 i, .slice Aa na ca, .slice Ab ng cb, limV X.l] W fun e W' => RunEnd W (runR X.m X.l i vs gs) e W' := by
  have hf0 : 0 ≤ X.l.fuel := by
    unfold beginB limB at hb
    simp only [Bool.and_eq_true] at hb
    have := of_decide_eq_true hb.2.1.1
    omega
  obtain ⟨t, ht⟩ : ∃ t, (begin0 X.m i.toNat vs gs).run X.m X.l (X.l.fuel.toNat + 1) = t := ⟨_, rfl⟩
  have er : runR X.m X.l i vs gs = resOf t gs := by unfold runR resOf; rw [if_pos hb, ht]
  rw [er]
  obtain ⟨Wb, t5, hWb, ht5, hbb, B5, B9, B11, B12⟩ := four W X
  have hG := h.below hbb
  have HE := Lib.hid (And.intro hWb ht5)
  have ht5h := Lib.hid ht5
  have HP := Lib.hid (begin_ok (ca := ca) (cb := cb) hG i hb)
  have HB := Lib.hid (And.intro hbb (And.intro B11 (And.intro B12 (And.intro hG (show Wb.heap.size > t5 + 1 + 1 + 1 from B12.l)))))
  have HT := Lib.hid (And.intro ht (And.intro hf0 hfuel))
  have HGW := Lib.hid h
  unfold modV limV at *
  clear h hb er hWb ht5 hbb B5 B9 B11 B12 hG ht hf0 hfuel
  go_enter Try.func8, Try.ntmps8
  go_wp2_with fail
  rw [HE.out.1, HE.out.2]
  clear HE
  refine HP.out.mono ?_
  rintro e w2 ⟨rb, fg, gh, rfl, hR, hrbW⟩
  have HJ0 := Lib.hid (LoopJ.start hR rfl HT.out.2.1)
  have HRB := Lib.hid hrbW
  clear hR hrbW HP
  go_wp2_with fail
  go_loopg [] (X.l.fuel.toNat + 1) (fun g wr => LoopJ Wb { X with gh := gh } rb (X.l.fuel.toNat + 1) t g wr)
  case atStart =>
    have hj := HJ0.out
    have e : Mc.run ({ X with gh := gh } : Sx).m ({ X with gh := gh } : Sx).l (({ X with gh := gh } : Sx).l.fuel.toNat + 1) (begin0 X.m i.toNat vs gs) = t := HT.out.1
    rw [e] at hj
    exact hj
  case round =>
    obtain ⟨fgs, c, s, R, hlv, hcg, hfu, hrun, hli⟩ := hrel
    have c15 := R.c15
    have c14 := R.c14
    have rl := R.rbl
    by_cases hlive : s.over = false ∧ s.e = 0
    · obtain ⟨ho, he⟩ := hlive
      rw [ho] at c15
      rw [he] at c14
      have hl2 := hli ho he
      obtain ⟨fg', hf'⟩ : ∃ fg', Topf fgs fg' := by
        rcases hlv with e | e
        · rw [ho] at e; cases e
        · exact e
      have hlf : ({ X with gh := gh } : Sx).l.fuel = X.l.fuel := rfl
      have hft := HT.out.2
      rw [hlf] at hl2
      have HN := Lib.hid (next_at R hf' (by omega) (by omega))
      have HL := Lib.hid (fun w2 hn => LoopJ.step (W0 := Wb) (wr := wr) (rb := rb) (fgs := fgs) (w2 := w2) hcg hfu hrun ho he hl2 hn)
      clear R hlv hcg hfu hrun hli ho he hl2 hf' hlf hft HJ0
      go_wp2_with fail
      refine HN.out.mono ?_
      rintro e w3 ⟨rfl, hL⟩
      obtain ⟨g', hg', hJ⟩ := HL.out w3 hL
      have HG := Lib.hid (And.intro hg' hJ)
      clear hg' hJ hL HL HN
      go_wp2_with fail
      go_roundg g'
      case measure => have := HG.out.1; omega
      case rel => exact HG.out.2
    · rw [run_dead hlive] at hrun
      subst hrun
      have B11 := HB.out.2.1.below R.bw
      have B12 := HB.out.2.2.1.below R.bw
      have a0 := B11.c 0 _ rfl
      have a1 := B11.c 1 _ rfl
      have a2 := B11.c 2 _ rfl
      have a3 := B11.c 3 _ rfl
      have fa0 := B11.f 0
      have fa1 := B11.f 1
      have fa2 := B11.f 2
      have fa3 := B11.f 3
      have la := B11.l
      have b0 := B12.c 0 _ rfl
      have b1 := B12.c 1 _ rfl
      have b2 := B12.c 2 _ rfl
      have fb0 := B12.f 0
      have fb1 := B12.f 1
      have fb2 := B12.f 2
      have lb := B12.l
      have hn5 : W.heap.size ≤ t5 := by rw [← ht5h.out]; exact Nat.le_refl _
      have hbw := below_next HB.out.1 R.bw
      by_cases he : s.e = 0
      · have ho : s.over = true := by cases h : s.over with
          | true => rfl
          | false => exact absurd ⟨h, he⟩ hlive
        rw [ho] at c15
        rw [he] at c14
        have HU : Hid (Calls Try.prog 15 #[.pointer (some ⟨gh, 0, none⟩)] wr fun e W' => e = .returned (.int .i64 s.hp.flatten.length) ∧ Below wr.heap.size wr W') := Lib.hid R.used
        have c6 : wr.cell? ⟨rb, 6, none⟩ = some (.pointer (some ⟨gh, 0, none⟩)) := R.c6
        obtain ⟨sf, sm, gh', sg, BR⟩ := R.rc
        obtain ⟨Ag, cg, c7, hgl⟩ := R.glAt
        have hok := R.ok
        have hnr : t5 + 1 + 1 ≠ rb := by have := HRB.out; have := HB.out.2.2.2.2; omega
        have hnr2 : t5 + 1 + 1 + 1 ≠ rb := by have := HRB.out; have := HB.out.2.2.2.2; omega
        have hrw : W.heap.size ≤ rb := by have := HRB.out; have := HB.out.1.size; omega
        have hb0 : Below W.heap.size W wr := hbw
        obtain ⟨us, hus⟩ : ∃ u, s.hp.flatten.length = u := ⟨_, rfl⟩
        rw [hus] at HU
        obtain ⟨gn, hgn⟩ : ∃ u, s.gl.length = u := ⟨_, rfl⟩
        rw [hgn] at c7
        obtain ⟨⟨o0, o1, o2, o3⟩, hout⟩ : ∃ o, s.out = o := ⟨_, rfl⟩
        obtain ⟨f0, hf0⟩ : ∃ x, s.fu = x := ⟨_, rfl⟩
        obtain ⟨f1, hf1⟩ : ∃ x, s.st = x := ⟨_, rfl⟩
        have BR1 := BR.c 16 _ rfl
        have BR2 := BR.c 17 _ rfl
        have BR3 := BR.c 18 _ rfl
        have BR4 := BR.c 19 _ rfl
        have BR5 := BR.c 11 _ rfl
        have BR6 := BR.c 12 _ rfl
        have BR7 := BR.c 13 _ rfl
        rw [hout] at BR1 BR2 BR3 BR4
        rw [hf0] at BR5
        rw [hf1] at BR6
        have rf13 := BR.f 13
        have HALL := Lib.hid (And.intro hb0 (And.intro B11 (And.intro B12 (And.intro hgl (And.intro hok (And.intro hus (And.intro hgn (And.intro hout (And.intro hf0 hf1)))))))))
        have HC8 := Lib.hid (And.intro BR1 (And.intro BR2 (And.intro BR3 (And.intro BR4 (And.intro BR5 (And.intro BR6 (And.intro BR7 (And.intro c7 rf13))))))))
        have HHE := Lib.hid he
        clear R hlv hcg hfu hli B11 B12 hbw HJ0 hlive BR hok hgl hus hgn hout hf0 hf1 hb0 he ho BR1 BR2 BR3 BR4 BR5 BR6 BR7 c7 rf13
        go_wp2_with fail
        refine HU.out.mono ?_
        rintro e w4 ⟨rfl, hb4⟩
        obtain ⟨BR1, BR2, BR3, BR4, BR5, BR6, BR7, c7, rf13⟩ := HC8.out
        have x13 := (hb4.cell (p := ⟨rb, 13, none⟩) rl).trans BR7
        have xf13 := (hb4.frozen (p := ⟨rb, 13, none⟩) rl).trans rf13
        have xl : rb < w4.heap.size := Nat.lt_of_lt_of_le rl hb4.size
        have y16 := (hb4.cell (p := ⟨rb, 16, none⟩) rl).trans BR1
        have y17 := (hb4.cell (p := ⟨rb, 17, none⟩) rl).trans BR2
        have y18 := (hb4.cell (p := ⟨rb, 18, none⟩) rl).trans BR3
        have y19 := (hb4.cell (p := ⟨rb, 19, none⟩) rl).trans BR4
        have y11 := (hb4.cell (p := ⟨rb, 11, none⟩) rl).trans BR5
        have y12 := (hb4.cell (p := ⟨rb, 12, none⟩) rl).trans BR6
        have y7 := (hb4.cell (p := ⟨rb, 7, none⟩) rl).trans c7
        have B114 := HALL.out.2.1.below hb4
        have B124 := HALL.out.2.2.1.below hb4
        obtain ⟨w5, hw5⟩ : ∃ V, w4.setCell ⟨rb, 13, none⟩ (.int .i64 (us : Int)) = V := ⟨_, rfl⟩
        have hk5 : RB8 rb (o0, (o1, o2, o3)) f0 f1 (us : Int) (.slice Ag gn cg) w5 := by
          have k : ∀ j, j ≠ 13 → w5.cell? ⟨rb, j, none⟩ = w4.cell? ⟨rb, j, none⟩ := fun j hj => by rw [← hw5]; exact World.cell?_setCell_other _ _ _ _ (by intro e; injection e with e1 e2; omega)
          refine ⟨(k 16 (by decide)).trans y16, (k 17 (by decide)).trans y17, (k 18 (by decide)).trans y18, (k 19 (by decide)).trans y19, (k 11 (by decide)).trans y11, (k 12 (by decide)).trans y12, ?_, (k 7 (by decide)).trans y7⟩
          rw [← hw5]
          exact World.cell?_setCell_same' _ _ _ (by rw [x13]; rfl)
        have B115 : Blk w5 (t5 + 1 + 1) [.int .i64 0, .int .u8 0, .int .i64 0, .int .i64 0] := by rw [← hw5]; exact B114.other (fun e => hnr e.symm) 13 (.int .i64 (us : Int))
        have B125 : Blk w5 (t5 + 1 + 1 + 1) [.int .i64 0, .int .i64 0, .int .i64 0] := by rw [← hw5]; exact B124.other (fun e => hnr2 e.symm) 13 (.int .i64 (us : Int))
        have hb05 : Below W.heap.size W w5 := by rw [← hw5]; exact Blk.below_set (below_next HALL.out.1 hb4) hrw 13 _
        have hgl5 : s.gl = [] ∨ ∃ gb, Ag = some ⟨gb, 0, none⟩ ∧ Wb.heap.size ≤ gb ∧ gb ≠ rb ∧ Blk w5 gb (vcs s.gl) := by
          rcases HALL.out.2.2.2.1 with e | ⟨gb, g1, g2, g3, g4⟩
          · exact .inl e
          · exact .inr ⟨gb, g1, g2, g3, by rw [← hw5]; exact (g4.below hb4).other (fun e => g3 e.symm) 13 (.int .i64 (us : Int))⟩
        have HW5 := Lib.hid (And.intro hb05 (And.intro B115 (And.intro B125 hgl5)))
        have HWE := Lib.hid hw5
        have s16 := hk5.1
        have sl5 := rb8_lt hk5
        clear hb4 BR1 BR2 BR3 BR4 BR5 BR6 BR7 c7 rf13 y16 y17 y18 y19 y11 y12 y7 B114 B124 B115 B125 hb05 hgl5 hw5 HC8 HU
        go_upto_region 9 with fail
        rw [HWE.out]
        clear HWE x13 xf13 xl a0 a1 a2 a3 fa0 fa1 fa2 fa3 la b0 b1 b2 fb0 fb1 fb2 lb c15 c14 c6 rl
        obtain ⟨hb05, B115, B125, -⟩ := HW5.out
        have a0 := B115.c 0 _ rfl
        have a1 := B115.c 1 _ rfl
        have a2 := B115.c 2 _ rfl
        have a3 := B115.c 3 _ rfl
        have fa0 := B115.f 0
        have fa1 := B115.f 1
        have fa2 := B115.f 2
        have fa3 := B115.f 3
        have la := B115.l
        have b0 := B125.c 0 _ rfl
        have b1 := B125.c 1 _ rfl
        have b2 := B125.c 2 _ rfl
        have fb0 := B125.f 0
        have fb1 := B125.f 1
        have fb2 := B125.f 2
        have lb := B125.l
        clear hb05 B115 B125
        try dsimp only at s16
        by_cases htr : o0 = 0
        · have hres := resOf_ok gs HHE.out (by rw [HALL.out.2.2.2.2.2.2.2.1]; exact htr)
          subst htr
          obtain ⟨-, -, -, -, hok, hus, hgn, hout, hf0, hf1⟩ := HALL.out
          rw [hout, hf0, hf1, hus] at hres
          have HRES := Lib.hid hres
          obtain ⟨hb05, B115, B125, hgl5⟩ := HW5.out
          obtain ⟨S11, S12, SB, ST⟩ := stored7 B115 B125 hb05 (by rw [← ht5h.out]; exact Nat.le_refl _) 0 o1 o2 o3 f0 f1 (us : Int)
          have hg7 : s.gl = [] ∨ ∃ gb, Ag = some ⟨gb, 0, none⟩ ∧ W.heap.size ≤ gb ∧ Blk (W7 w5 t5 0 o1 o2 o3 f0 f1 (us : Int)) gb (vcs s.gl) := by
            rcases hgl5 with e | ⟨gb, g1, g2, g3, g4⟩
            · exact .inl e
            · have := HB.out.2.2.2.2
              have := HB.out.1.size
              exact .inr ⟨gb, g1, by omega, g4.touch ST (by omega)⟩
          have hvk := hok.gv
          unfold W7 at S11 S12 SB hg7
          have z0 := S11.c 0 _ rfl
          have z1 := S11.c 1 _ rfl
          have z2 := S11.c 2 _ rfl
          have z3 := S11.c 3 _ rfl
          have lz := S11.l
          have y0 := S12.c 0 _ rfl
          have y1 := S12.c 1 _ rfl
          have y2 := S12.c 2 _ rfl
          have ly := S12.l
          have HBF := Lib.hid (And.intro SB (And.intro hg7 (And.intro hvk hgn)))
          clear hb05 B115 B125 hgl5 S11 S12 SB ST hg7 hvk hok hus hgn hout hf0 hf1 hres
          go_upto_region 11 with fail
          go_region_held3 (fun w' => w'.cell? ⟨rb, 16, none⟩ = some (.int .i64 0) ∧ w'.cell? ⟨rb, 17, none⟩ = some (.int .u8 o1) ∧ w'.cell? ⟨rb, 18, none⟩ = some (.int .i64 o2) ∧ w'.cell? ⟨rb, 19, none⟩ = some (.int .i64 o3) ∧
              w'.cell? ⟨rb, 11, none⟩ = some (.int .i64 f0) ∧ w'.cell? ⟨rb, 12, none⟩ = some (.int .i64 f1) ∧ w'.cell? ⟨rb, 13, none⟩ = some (.int .i64 (us : Int)) ∧ w'.cell? ⟨rb, 7, none⟩ = some (.slice Ag gn cg))
            ((change RB8 rb (0, (o1, o2, o3)) f0 f1 (us : Int) (.slice Ag gn cg) _; repeat (first | (with_reducible exact hk5) | (with_reducible exact rb8_drew hk5) | with_reducible refine rb8_drew ?_ | with_reducible refine rb8_set ?_ ?_ _ _ | omega)))
            (fail)
          all_goals go_wp2_with fail
          all_goals exact bodyPost_ret (v := .tuple #[.slice Ag gn cg, .agg #[.int .i64 0, .int .u8 o1, .int .i64 o2, .int .i64 o3], .agg #[.int .i64 f0, .int .i64 f1, .int .i64 (us : Int)], .int .i64 0]) (by simp [results, Try.results8, go_sem, z0, z1, z2, z3, y0, y1, y2]) rfl (by rw [HRES.out]; refine ⟨Ag, cg, by rw [HBF.out.2.2.2], ?_, ?_, HBF.out.2.2.1⟩ <;> first | (with_reducible exact below_drew HBF.out.1) | (with_reducible exact HBF.out.1) | (with_reducible exact gl_drew HBF.out.2.1) | (with_reducible exact HBF.out.2.1))
        · have hres := resOf_trap gs HHE.out (by rw [HALL.out.2.2.2.2.2.2.2.1]; exact htr)
          have hq1 : (o0 == 0) = false := by rw [beq_eq_false_iff_ne]; exact htr
          have hq2 : (o0 != 0) = true := by simpa using htr
          obtain ⟨-, -, -, -, hok, hus, hgn, hout, hf0, hf1⟩ := HALL.out
          rw [hout, hf0, hf1, hus] at hres
          have HRES := Lib.hid hres
          have HCL : Hid (∀ V, Below w5.heap.size w5 V → Calls Try.prog 16 #[.slice Ab ng cb] V fun e w' => CloneV V ng gs e w') := Lib.hid (fun V hb => clone_any Ab ng cb gs V (HGW.out.vg.below (below_next HW5.out.1 hb)) (by have := HGW.out.ng; omega))
          clear hok hus hgn hout hf0 hf1 hres htr
          go_upto_region 10 with fail
          go_region_held3 (fun w' => w'.cell? ⟨rb, 16, none⟩ = some (.int .i64 o0) ∧ w'.cell? ⟨rb, 17, none⟩ = some (.int .u8 o1) ∧ w'.cell? ⟨rb, 18, none⟩ = some (.int .i64 o2) ∧ w'.cell? ⟨rb, 19, none⟩ = some (.int .i64 o3) ∧
              w'.cell? ⟨rb, 11, none⟩ = some (.int .i64 f0) ∧ w'.cell? ⟨rb, 12, none⟩ = some (.int .i64 f1) ∧ w'.cell? ⟨rb, 13, none⟩ = some (.int .i64 (us : Int)) ∧ w'.cell? ⟨rb, 7, none⟩ = some (.slice Ag gn cg))
            ((change RB8 rb (o0, (o1, o2, o3)) f0 f1 (us : Int) (.slice Ag gn cg) _; repeat (first | (with_reducible exact hk5) | (with_reducible exact rb8_drew hk5) | (with_reducible exact hk6) | (with_reducible exact rb8_drew hk6) | with_reducible refine rb8_drew ?_ | with_reducible refine rb8_set ?_ ?_ _ _ | omega)))
            (first
              | (go_at_call 16; refine (HCL.out _ (by with_reducible exact below_drew (Below.refl _ _))).mono ?_; rintro e w6 ⟨Ac, cc, rfl, hb6, hg6⟩
                 have hk6 := rb8_below (rb8_drew hk5) hb6
                 obtain ⟨hb05, B115, B125, -⟩ := HW5.out
                 have B116 := B115.drew.below hb6
                 have B126 := B125.drew.below hb6
                 have hb06 := below_next (below_drew hb05) hb6
                 obtain ⟨S11, S12, SB, ST⟩ := stored7 B116 B126 hb06 (by rw [← ht5h.out]; exact Nat.le_refl _) o0 o1 o2 o3 f0 f1 (us : Int)
                 have hg7 : gs = [] ∨ ∃ gb, Ac = some ⟨gb, 0, none⟩ ∧ W.heap.size ≤ gb ∧ Blk (W7 w6 t5 o0 o1 o2 o3 f0 f1 (us : Int)) gb (vcs gs) := by
                   rcases hg6 with e | ⟨gb, g1, g2, g4⟩
                   · exact .inl e
                   · have h1 := hb05.size
                     have h2 := B115.l
                     have h3 := B125.l
                     have h4 : w5.heap.size ≤ gb := g2
                     exact .inr ⟨gb, g1, by omega, g4.touch ST (by omega)⟩
                 unfold W7 at S11 S12 SB hg7
                 have z0 := S11.c 0 _ rfl
                 have z1 := S11.c 1 _ rfl
                 have z2 := S11.c 2 _ rfl
                 have z3 := S11.c 3 _ rfl
                 have lz := S11.l
                 have y0 := S12.c 0 _ rfl
                 have y1 := S12.c 1 _ rfl
                 have y2 := S12.c 2 _ rfl
                 have ly := S12.l
                 have HBF := Lib.hid (And.intro SB hg7)
                 clear a0 a1 a2 a3 fa0 fa1 fa2 fa3 la b0 b1 b2 fb0 fb1 fb2 lb
                 have a0 := B116.c 0 _ rfl
                 have a1 := B116.c 1 _ rfl
                 have a2 := B116.c 2 _ rfl
                 have a3 := B116.c 3 _ rfl
                 have fa0 := B116.f 0
                 have fa1 := B116.f 1
                 have fa2 := B116.f 2
                 have fa3 := B116.f 3
                 have la := B116.l
                 have b0 := B126.c 0 _ rfl
                 have b1 := B126.c 1 _ rfl
                 have b2 := B126.c 2 _ rfl
                 have fb0 := B126.f 0
                 have fb1 := B126.f 1
                 have fb2 := B126.f 2
                 have lb := B126.l
                 clear hb05 B115 B125 S11 S12 SB ST hg7 hb6 hg6 B116 B126 hb06)
              | fail)
          all_goals go_wp2_with fail
          all_goals exact bodyPost_ret (v := .tuple #[.slice Ac ng cc, .agg #[.int .i64 o0, .int .u8 o1, .int .i64 o2, .int .i64 o3], .agg #[.int .i64 f0, .int .i64 f1, .int .i64 (us : Int)], .int .i64 0]) (by simp [results, Try.results8, go_sem, z0, z1, z2, z3, y0, y1, y2]) rfl (by rw [HRES.out]; refine ⟨Ac, cc, by rw [HGW.out.vg.1], ?_, ?_, vs_ok HGW.out.vg⟩ <;> first | (with_reducible exact below_drew HBF.out.1) | (with_reducible exact HBF.out.1) | (with_reducible exact gl_drew HBF.out.2) | (with_reducible exact HBF.out.2))
      · have HRES := Lib.hid (resOf_err gs he)
        have hq1 : (s.e == 0) = false := by rw [beq_eq_false_iff_ne]; exact he
        have hq2 : (s.e != 0) = true := by simpa using he
        obtain ⟨S11, S12, SB, -⟩ := stored7 B11 B12 hbw hn5 0 0 0 0 0 0 0
        unfold W7 at S11 S12 SB
        have z0 := S11.c 0 _ rfl
        have z1 := S11.c 1 _ rfl
        have z2 := S11.c 2 _ rfl
        have z3 := S11.c 3 _ rfl
        have lz := S11.l
        have y0 := S12.c 0 _ rfl
        have y1 := S12.c 1 _ rfl
        have y2 := S12.c 2 _ rfl
        have ly := S12.l
        have HBF := Lib.hid SB
        clear R hlv hcg hfu hli B11 B12 S11 S12 SB hbw hn5 he HJ0 hlive
        have hk14 : RB14 rb s.e wr := c14
        have hnr : t5 + 1 + 1 ≠ rb := by have := HRB.out; have := HB.out.2.2.2.2; omega
        have hnr2 : t5 + 1 + 1 + 1 ≠ rb := by have := HRB.out; have := HB.out.2.2.2.2; omega
        rcases Bool.eq_false_or_eq_true s.over with ho | ho
        · rw [ho] at c15
          clear ho
          go_upto_region 7 with fail
          go_region_held3 (fun w' => w'.cell? ⟨rb, 14, none⟩ = some (.int .i64 s.e))
            ((change RB14 rb s.e _; repeat (first | (with_reducible exact hk14) | (with_reducible exact rb14_drew hk14) | with_reducible refine rb14_drew ?_ | with_reducible refine rb14_set ?_ ?_ _ _ | omega)))
            (fail)
          all_goals go_wp2_with fail
          all_goals exact bodyPost_ret (v := .tuple #[.slice none 0 0, .agg #[.int .i64 0, .int .u8 0, .int .i64 0, .int .i64 0], .agg #[.int .i64 0, .int .i64 0, .int .i64 0], .int .i64 s.e]) (by simp [results, Try.results8, go_sem, z0, z1, z2, z3, y0, y1, y2]) rfl (by rw [HRES.out]; exact ⟨none, 0, rfl, below_drew HBF.out, .inl rfl, fun v hv => (by cases hv)⟩)
        · rw [ho] at c15
          clear ho
          go_upto_region 7 with fail
          go_region_held3 (fun w' => w'.cell? ⟨rb, 14, none⟩ = some (.int .i64 s.e))
            ((change RB14 rb s.e _; repeat (first | (with_reducible exact hk14) | (with_reducible exact rb14_drew hk14) | with_reducible refine rb14_drew ?_ | with_reducible refine rb14_set ?_ ?_ _ _ | omega)))
            (fail)
          all_goals go_wp2_with fail
          all_goals exact bodyPost_ret (v := .tuple #[.slice none 0 0, .agg #[.int .i64 0, .int .u8 0, .int .i64 0, .int .i64 0], .agg #[.int .i64 0, .int .i64 0, .int .i64 0], .int .i64 s.e]) (by simp [results, Try.results8, go_sem, z0, z1, z2, z3, y0, y1, y2]) rfl (by rw [HRES.out]; exact ⟨none, 0, rfl, below_drew HBF.out, .inl rfl, fun v hv => (by cases hv)⟩)
end
#print axioms resOf_trap
#print axioms resOf_ok
#print axioms run_yes
end Go.Proofs.Ytkhgpeejmbfmjaa
