/- FramePlays: the document's own frame: Pop, Begin, Again. -/
import Derived.Test.YthllfeogchbihaaFrameS
namespace Go.Proofs.Ythllfeogchbihaa
open Go.RowKit
set_option linter.unusedSimpArgs false
set_option linter.unusedVariables false

theorem vcs_one (l : List V) : ∀ u ∈ vcs l, u.oneCell' = true := by
  intro u hu
  unfold vcs at hu
  rw [List.mem_flatMap] at hu
  obtain ⟨v, -, hu⟩ := hu
  exact three_one _ _ _ u hu
section
variable {W : World} {base rf c : Nat} {la sa ta : Value} {tl : List (Int × Int)} {F : Fr}
theorem rpop_no (h : RfAt W base rf c la sa ta tl F) (k : Int) (hk0 : 0 ≤ k ∧ k ≤ 255) (hn : popB F k = false) :
    Calls Try.prog 29 #[.pointer (some ⟨rf, 0, none⟩), .int .u8 k] W fun e W' => e = .returned (.tuple #[vagg zv, .bool false]) ∧ Below W.heap.size W W' := by
  have hb0 : Below W.heap.size W (W.alloc (.cells #[.int .u8 0, .int .i64 0, .int .i64 0] 37)) := (Below.refl _ _).alloc (Nat.le_refl _) _
  have h1 := h.below hb0
  have hB : Hid (∀ w2, Below (W.alloc (.cells #[.int .u8 0, .int .i64 0, .int .i64 0] 37)).heap.size (W.alloc (.cells #[.int .u8 0, .int .i64 0, .int .i64 0] 37)) w2 → Below W.heap.size W w2 ∧ Blk w2 W.heap.size (vc zv)) :=
    Lib.hid (fun w2 hb => ⟨below_next hb0 hb, (boxed W zv).below hb⟩)
  obtain ⟨bx, hbxe⟩ : ∃ bx, W.heap.size = bx := ⟨_, rfl⟩
  have HT := rtop_at h1
  have hq : topB F = true → (k != 0) = true ∧ (k != (topV F).1) = true := by
    intro e
    unfold popB at hn
    rw [e, Bool.true_and] at hn
    have := of_decide_eq_false hn
    exact ⟨by rw [bne_iff_ne]; omega, by rw [bne_iff_ne]; omega⟩
  generalize topB F = b at *
  unfold vagg at HT
  generalize (topV F).1 = x0 at *
  generalize (topV F).2.1 = x1 at *
  generalize (topV F).2.2 = x2 at *
  have HT' := Lib.hid HT
  clear HT
  have HT := HT'
  clear HT'
  unfold vagg zv
  dsimp only
  clear hb0 h1 h hn
  cases b with
  | false =>
    clear hq
    go_enter Try.func29, Try.ntmps29
    go_wp2_with fail
    refine HT.out.mono ?_
    rintro e w2 ⟨rfl, hb⟩
    obtain ⟨t2, b2⟩ := hB.out w2 hb
    rw [hbxe] at b2
    have hl2 : bx < w2.heap.size := b2.l
    have d0 : w2.cell? ⟨bx, 0, none⟩ = some (.int .u8 0) := b2.c 0 _ rfl
    have d1 : w2.cell? ⟨bx, 1, none⟩ = some (.int .i64 0) := b2.c 1 _ rfl
    have d2 : w2.cell? ⟨bx, 2, none⟩ = some (.int .i64 0) := b2.c 2 _ rfl
    have f0 := b2.f 0
    have f1 := b2.f 1
    have f2 := b2.f 2
    have hwb : W.heap.size ≤ bx := by omega
    clear hb b2 HT hB
    have T2 := Lib.hid t2
    clear t2
    go_wp2_with fail
    refine bodyPost_ret (v := .tuple #[.agg #[.int .u8 0, .int .i64 0, .int .i64 0], .bool false]) (by simp [results, Try.results29, go_sem, *]) rfl ⟨rfl, ?_⟩
    exact (((T2.out.setCell (show W.heap.size ≤ bx from hwb) _).setCell (show W.heap.size ≤ bx from hwb) _).setCell (show W.heap.size ≤ bx from hwb) _).alloc (by simpa using T2.out.size) _
  | true =>
    obtain ⟨k1, k2⟩ := hq rfl
    clear hq
    go_enter Try.func29, Try.ntmps29
    go_wp2_with fail
    refine HT.out.mono ?_
    rintro e w2 ⟨rfl, hb⟩
    obtain ⟨t2, b2⟩ := hB.out w2 hb
    rw [hbxe] at b2
    have hl2 : bx < w2.heap.size := b2.l
    have d0 : w2.cell? ⟨bx, 0, none⟩ = some (.int .u8 0) := b2.c 0 _ rfl
    have d1 : w2.cell? ⟨bx, 1, none⟩ = some (.int .i64 0) := b2.c 1 _ rfl
    have d2 : w2.cell? ⟨bx, 2, none⟩ = some (.int .i64 0) := b2.c 2 _ rfl
    have f0 := b2.f 0
    have f1 := b2.f 1
    have f2 := b2.f 2
    have hwb : W.heap.size ≤ bx := by omega
    clear hb b2 HT hB
    have T2 := Lib.hid t2
    clear t2
    go_wp2_with fail
    refine bodyPost_ret (v := .tuple #[.agg #[.int .u8 0, .int .i64 0, .int .i64 0], .bool false]) (by simp [results, Try.results29, go_sem, *]) rfl ⟨rfl, ?_⟩
    exact (((T2.out.setCell (show W.heap.size ≤ bx from hwb) _).setCell (show W.heap.size ≤ bx from hwb) _).setCell (show W.heap.size ≤ bx from hwb) _).alloc (by simpa using T2.out.size) _

set_option maxRecDepth 100000 in
set_option maxHeartbeats 2000000 in
theorem rpop_yes (h : RfAt W base rf c la sa ta tl F) (k : Int) (hk0 : 0 ≤ k ∧ k ≤ 255) {l : List V} {v : V} (hs : F.stk = l ++ [v]) (hk : k = 0 ∨ v.1 = k) :
    Calls Try.prog 29 #[.pointer (some ⟨rf, 0, none⟩), .int .u8 k] W fun e W' => e = .returned (.tuple #[vagg v, .bool true]) ∧ RStep W base rf c la sa ta { F with stk := l } W' := by
  obtain ⟨i37, hi, hz0, hz1, hz2⟩ := fr_parts info37
  have hb0 : Below W.heap.size W (W.alloc (.cells #[.int .u8 0, .int .i64 0, .int .i64 0] 37)) := (Below.refl _ _).alloc (Nat.le_refl _) _
  have h1 := h.below hb0
  have hB : Hid (∀ w2, Below (W.alloc (.cells #[.int .u8 0, .int .i64 0, .int .i64 0] 37)).heap.size (W.alloc (.cells #[.int .u8 0, .int .i64 0, .int .i64 0] 37)) w2 → Below W.heap.size W w2 ∧ Blk w2 W.heap.size (vc zv) ∧ RfAt w2 base rf c la sa ta tl F) :=
    Lib.hid (fun w2 hb => ⟨below_next hb0 hb, (boxed W zv).below hb, h1.below hb⟩)
  have HT := rtop_at h1
  have e1 : topB F = true := by unfold topB; rw [hs]; simp
  have e2 : topV F = v := by unfold topV; rw [hs]; simp
  rw [e1, e2] at HT
  have HT := Lib.hid HT
  obtain ⟨bx, hbxe⟩ : ∃ bx, W.heap.size = bx := ⟨_, rfl⟩
  have hlen : F.stk.length = l.length + 1 := by rw [hs]; simp
  have hsl := h.sl
  have e3 : vcs F.stk = vcs l ++ vc v := by rw [hs, vcs_append]; simp [vcs]
  obtain ⟨g, cap, hsa, hcap, hgb, hgl⟩ := row_some h.rs (by omega)
  rw [hlen] at hsa hcap
  have HRS : Hid (∀ w2, RfAt w2 base rf c la sa ta tl F → w2.ownsRow base 37 3 (.slice (some ⟨g, 0, none⟩) (l.length + 1) cap) (l.length + 1) (vcs l ++ vc v)) := by
    apply Lib.hid
    intro w2 h2
    have := h2.rs
    rw [hsa, hlen, e3] at this
    exact this
  have HF : Hid (∀ W1 W2 A' cap' X, Below W.heap.size W W1 → W2.ownsRow base 37 3 (.slice A' l.length cap') l.length (vcs l) → Touch (fun _ => False) W1 W2 → (∀ b, (Value.slice A' l.length cap').ownBlock = some b → W1.heap.size ≤ b) → X = W2.setCell ⟨rf, 1, none⟩ (.slice A' l.length cap') → RStep W1 base rf c la sa ta { F with stk := l } X) := by
    apply Lib.hid
    intro W1 W2 A' cap' X hb hown t hat hX
    exact ((h.below hb).restack t (fun b e => e.elim) hown (by omega) (fun u hu => h.so u (by rw [hs]; exact List.mem_append_left _ hu)) (fun b e => .inr (hat b e)) hX)
  have hcond : ((k != 0) = false) ∨ ((k != 0) = true ∧ (k != v.1) = false) := by
    by_cases e : k = 0
    · exact .inl (by simp [e])
    · refine .inr ⟨by rw [bne_iff_ne]; exact e, by rcases hk with hk | hk; exact absurd hk e; simp [hk]⟩
  have hfgl := h.blk.l
  have hne : ¬ rf = bx := by omega
  have hne2 : ¬ bx = rf := by omega
  have hne3 : ¬ g = rf := by have := h.b1; omega
  have hne4 : ¬ rf = g := fun e => hne3 e.symm
  have HBS := Lib.hid h.bs
  have HFOOT := Lib.hid h.foot
  subst hsa
  obtain ⟨x0, x1, x2⟩ := v
  unfold vagg at HT ⊢
  dsimp only at HT hcond ⊢
  generalize hq : l.length = q at *
  have HQ := Lib.hid hq
  have q1 : (q : Int) ≤ 256 := by omega
  have q2 : (q : Int) ≤ (cap : Int) := by omega
  have q3 : q ≤ cap := by omega
  have q4 : q ≤ 256 := by omega
  clear hb0 h1 h hs hk hlen hsl hcap hq e1 e2 e3
  rcases hcond with hcond | ⟨hcond, hcond2⟩
  all_goals
    go_enter Try.func29, Try.ntmps29
    go_wp2_with fail
    refine HT.out.mono ?_
    rintro e w2 ⟨rfl, hb⟩
    obtain ⟨t2, b2, h2⟩ := hB.out w2 hb
    rw [hbxe] at b2
    have hrs2 := HRS.out w2 h2
    have c1 : w2.cell? ⟨rf, 1, none⟩ = some (.slice (some ⟨g, 0, none⟩) (q + 1) cap) := h2.blk.c 1 _ rfl
    have f1 := h2.blk.f 1
    have hl2 : bx < w2.heap.size := b2.l
    have hl3 := h2.blk.l
    have hl4 := h2.bs
    have hbv := (Blk.new w2 #[.int .u8 x0, .int .i64 x1, .int .i64 x2] 37)
    have b3 := b2.alloc (.cells #[.int .u8 x0, .int .i64 x1, .int .i64 x2] 37)
    have hwv : Below W.heap.size W (w2.alloc (.cells #[.int .u8 x0, .int .i64 x1, .int .i64 x2] 37)) := t2.alloc t2.size _
    have hrs3 := hrs2.alloc (.cells #[.int .u8 x0, .int .i64 x1, .int .i64 x2] 37)
    have HBV := Lib.hid hbv
    have HB3 := Lib.hid b3
    have HWV := Lib.hid hwv
    have HR3 := Lib.hid hrs3
    have HC1 := Lib.hid ((h2.blk.alloc (.cells #[.int .u8 x0, .int .i64 x1, .int .i64 x2] 37)).c 1 _ rfl)
    have HF1 := Lib.hid ((h2.blk.alloc (.cells #[.int .u8 x0, .int .i64 x1, .int .i64 x2] 37)).f 1)
    have HBXE := Lib.hid hbxe
    have HRFB : Hid (rf < base) := Lib.hid h2.b1
    clear hb hB HT b2 h2 hrs2 hbv b3 hwv hrs3 t2 HRS hbxe
    go_wp2_with fail
    obtain ⟨WV, hWV⟩ : ∃ WV, w2.alloc (.cells #[.int .u8 x0, .int .i64 x1, .int .i64 x2] 37) = WV := ⟨_, rfl⟩
    have hWs : WV.heap.size = w2.heap.size + 1 := by rw [← hWV]; simp
    rw [hWV] at HC1 HF1
    have c1V : WV.cell? ⟨rf, 1, none⟩ = some (.slice (some ⟨g, 0, none⟩) (q + 1) cap) := HC1.out
    have f1V : WV.frozen? ⟨rf, 1, none⟩ = false := HF1.out
    rw [hWV] at HBV HB3 HWV HR3 ⊢
    obtain ⟨bv, hbv⟩ : ∃ bv, w2.heap.size = bv := ⟨_, rfl⟩
    rw [hbv] at HBV ⊢
    have hl5 : rf < WV.heap.size := by omega
    have hl6 : base ≤ WV.heap.size := by omega
    have hl7 : bx < WV.heap.size := by omega
    have hl8 : ¬ bv = rf := by omega
    have hl9 : ¬ bv = bx := by omega
    have hl10 : ¬ bx = bv := by omega
    have HWS := Lib.hid hWs
    clear c1 f1 hl2 hl3 hl4 hWV hWs
    have hBW : Below WV.heap.size WV (WV.alloc (.cells #[] 37)).drew := below_drew ((Below.refl _ _).alloc (Nat.le_refl _) _)
    have CW := Lib.hid ((hBW.cell (p := ⟨rf, 1, none⟩) hl5).trans c1V)
    have FW := Lib.hid ((hBW.frozen (p := ⟨rf, 1, none⟩) hl5).trans f1V)
    have BW := Lib.hid hBW
    have HNEWS : Hid (∀ j u, (vcs l)[j]? = some u → (WV.alloc (.cells #[] 37)).drew.cell? ((⟨g, 0, none⟩ : Addr).add j) = some u) := by
      apply Lib.hid
      intro j u hj
      refine ((HR3.out.alloc (.cells #[] 37)).drew).cells rfl j u ?_
      rw [List.getElem?_append_left (List.getElem?_eq_some_iff.1 hj).1]
      exact hj
    have hnm : 0 + q ≤ maxLen := by unfold maxLen; omega
    have hnb : (0 + q) * 24 ≤ 140737488355328 := by omega
    have HL : Hid ((vcs l).length = q * 3) := Lib.hid (by rw [vcs_length, HQ.out])
    have hwq : IntKind.i64.wrap (q : Int) = (q : Int) := IntWalk.i64_in _ (by omega)
    clear hBW hbv
    go_region_law (refine step_append_own rfl (.tmp 27) (.tmp 38) 35 rfl base 37 i37 (.agg #[.int .u8 0, .int .i64 0, .int .i64 0]) 3 24 Try.underlying35 hi hz0 hz1 hz2 rfl (by decide) (.slice (some ⟨WV.heap.size, 0, none⟩) 0 0) 0 [] (by simp [Act.eval, Act.put]) ((World.ownsRow_made WV #[] 0 hl6 (by decide) rfl).drew) ⟨g, 0, none⟩ q cap (vcs l) (by simp [Act.eval, Act.put]) HL.out HNEWS.out (vcs_one l) hnm hnb (by simp; omega) ?_; intro v' w' hown hgrow hor; simp only [Nat.zero_add, List.nil_append] at hown; obtain ⟨A', cap', rfl⟩ := row_form hown; have hbl' := hgrow.block rf (by simp; omega) (by intro e; have e : rf = WV.heap.size := Option.some.inj e; omega); have hc' := (World.cell?_of_block (a := ⟨rf, 1, none⟩) hbl').trans CW.out; have hf' := (World.frozen?_of_block (a := ⟨rf, 1, none⟩) hbl').trans FW.out; have HOWN := Lib.hid hown; have HGROW := Lib.hid hgrow; have HOR := Lib.hid hor; clear hown hgrow hor hbl')
    all_goals
      have hT : Touch (fun _ => False) WV w' := (Touch.of_below BW.out (Nat.le_refl _) _).grown HGROW.out (fun k e hk => by
        have e : WV.heap.size = k := Option.some.inj e
        omega)
      have hbv2 := HBV.out.touch hT (fun e => e)
      have hbx2 := HB3.out.touch hT (fun e => e)
      have v0 : w'.cell? ⟨bv, 0, none⟩ = some (.int .u8 x0) := hbv2.c 0 _ rfl
      have v1 : w'.cell? ⟨bv, 1, none⟩ = some (.int .i64 x1) := hbv2.c 1 _ rfl
      have v2 : w'.cell? ⟨bv, 2, none⟩ = some (.int .i64 x2) := hbv2.c 2 _ rfl
      have d0 : w'.cell? ⟨bx, 0, none⟩ = some (.int .u8 0) := hbx2.c 0 _ rfl
      have d1 : w'.cell? ⟨bx, 1, none⟩ = some (.int .i64 0) := hbx2.c 1 _ rfl
      have d2 : w'.cell? ⟨bx, 2, none⟩ = some (.int .i64 0) := hbx2.c 2 _ rfl
      have g0 := hbx2.f 0
      have g1 := hbx2.f 1
      have g2 := hbx2.f 2
      have HSTEP := Lib.hid (HF.out WV w' A' cap' _ HWV.out HOWN.out hT (fun b e => by
        rcases HOR.out with e2 | e2
        · rw [e] at e2
          have e2 : b = WV.heap.size := Option.some.inj e2
          omega
        · rw [e] at e2
          have e2 : b = (WV.alloc (.cells #[] 37)).drew.heap.size := Option.some.inj e2
          have := BW.out.size
          omega) rfl)
      clear hT hbv2 hbx2
      go_wp2_with fail
      refine bodyPost_ret (v := .tuple #[.agg #[.int .u8 x0, .int .i64 x1, .int .i64 x2], .bool true]) (by simp [results, Try.results29, go_sem, *]) rfl ⟨rfl, ?_⟩
      obtain ⟨la', sa', ta', tl', k1, k2, k3⟩ := HSTEP.out
      have tx : Touch (fun b => b = bx) (w'.setCell ⟨rf, 1, none⟩ (.slice A' q cap')) _ := (((Touch.refl (fun b => b = bx) _).setCell ⟨bx, 0, none⟩ (.int .u8 x0) (fun _ => rfl)).setCell ⟨bx, 1, none⟩ (.int .i64 x1) (fun _ => rfl)).setCell ⟨bx, 2, none⟩ (.int .i64 x2) (fun _ => rfl)
      have hbxe := HBXE.out
      refine ⟨la', sa', ta', tl', ((Touch.of_below HWV.out (Nat.le_refl _) _).trans k1).trans' tx (fun j hj e => ?_), k2.touch tx (fun b hb e => ?_), fun b hb => ?_⟩
      · have e : j = bx := e
        omega
      · have e : b = bx := e
        rcases k3 b hb with e3 | e3
        · have := HFOOT.out b e3
          omega
        · omega
      · rcases k3 b hb with e3 | e3
        · exact .inl e3
        · exact .inr (Nat.le_trans HWV.out.size e3)
end
end Go.Proofs.Ythllfeogchbihaa
