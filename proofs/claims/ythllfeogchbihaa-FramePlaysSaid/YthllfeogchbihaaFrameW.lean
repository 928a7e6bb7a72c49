/- FramePlays: the document's own frame: New. -/
import Derived.Test.YthllfeogchbihaaFrameS
namespace Go.Proofs.Ythllfeogchbihaa
open Go.RowKit
set_option linter.unusedSimpArgs false
set_option linter.unusedVariables false

set_option maxRecDepth 100000 in
set_option maxHeartbeats 1000000 in
theorem rnew_short (w : World) (A0 A1 A2 : Option Addr) (n0 n1 n2 c0 c1 c2 : Nat) (h : n0 ≠ n2 ∨ 16 < n0 + n1) (b0 : n0 ≤ 100000) (b1 : n1 ≤ 100000) (b2 : n2 ≤ 100000) :
    Calls Try.prog 17 #[.slice A0 n0 c0, .slice A1 n1 c1, .slice A2 n2 c2] w fun e w' => e = .returned (.tuple #[.pointer none, .int .i64 2]) ∧ w' = w := by
  have k0 : (n0 : Int) ≤ 100000 := by omega
  have k1 : (n1 : Int) ≤ 100000 := by omega
  by_cases h1 : n0 = n2
  · subst h1
    by_cases h2 : 16 < n0
    · have h3 : (16 : Int) < (n0 : Int) := by omega
      clear h
      go_enter Try.func17, Try.ntmps17
      go_wp2_with fail
      go_ret2
      exact ⟨rfl, rfl⟩
    · have h3 : (n0 : Int) ≤ 16 := by omega
      by_cases h5 : 16 < n1
      · have h4 : (16 : Int) < (n1 : Int) := by omega
        clear h
        go_enter Try.func17, Try.ntmps17
        go_wp2_with fail
        go_ret2
        exact ⟨rfl, rfl⟩
      · have h6 : (n1 : Int) ≤ 16 := by omega
        have h4 : (16 : Int) < (n0 : Int) + (n1 : Int) := by omega
        clear h
        go_enter Try.func17, Try.ntmps17
        go_wp2_with fail
        go_ret2
        exact ⟨rfl, rfl⟩
  · have h3 : ((n0 : Int) != (n2 : Int)) = true := by rw [bne_iff_ne]; omega
    have h4 : (n0 != n2) = true := by rw [bne_iff_ne]; exact h1
    clear h
    go_enter Try.func17, Try.ntmps17
    go_wp2_with fail
    go_ret2
    exact ⟨rfl, rfl⟩

/-- A local more, in a row that has been appended to. -/
theorem RfAt.moreLoc {W : World} {base rf c : Nat} {la sa ta : Value} {tl : List (Int × Int)} {F : Fr} (h : RfAt W base rf c la sa ta tl F) {W1 W' : World} {la' : Value} {v : V} (hv : VOk v) (hm : F.many < 16) {S : Nat → Prop} (t : Touch S W W1) (hS : ∀ b, S b → la.ownBlock = some b)
    (hrow : W1.ownsRow base 37 3 la' (F.many + 1) (vcs (F.locs.take F.many) ++ vc v)) (hat : ∀ b, la'.ownBlock = some b → la.ownBlock = some b ∨ W.heap.size ≤ b) (hw : W' = W1.setCell ⟨rf, 0, none⟩ la') :
    Touch (RF rf la sa ta) W W' ∧ RfAt W' base rf c la' sa ta tl { F with locs := F.locs.set F.many v, many := F.many + 1 } := by
  have t1 : Touch (fun b => b = rf) W1 W' := by
    rw [hw]
    exact (Touch.refl (fun b => b = rf) W1).setCell _ _ (fun _ => rfl)
  have hb1 := h.b1
  have n0 : ¬ S rf := fun e => by have := (h.rl.lt rf (hS rf e)).1; omega
  have hll : F.many < F.locs.length := by rw [h.ll]; exact hm
  refine ⟨(t.mono (fun b _ e => .inr (.inl (hS b e)))).trans (t1.mono (fun b _ e => .inl e)), { h with blk := ?_, ll := by simpa using h.ll, ml := by show F.many + 1 ≤ 16; omega, rl := ?_, rs := row_touch t1 (row_touch t h.rs (fun b e e2 => h.d1 b (hS b e2) e)) (fun b e e2 => ?_), rt := row_touch t1 (row_touch t h.rt (fun b e e2 => h.d2 b (hS b e2) e)) (fun b e e2 => ?_), bs := Nat.le_trans h.bs (Nat.le_trans t.size t1.size), vo := ?_, d1 := ?_, d2 := ?_ }⟩
  · have hb := (h.blk.touch t n0).set (j := 0) (u := la) rfl la'
    rw [hw]
    exact hb
  · have e : (F.locs.set F.many v).take (F.many + 1) = F.locs.take F.many ++ [v] := by
      rw [List.take_succ_eq_append_getElem (by simpa using hll), List.getElem_set_self, List.take_set_of_le (Nat.le_refl _)]
    show W'.ownsRow base 37 3 la' (F.many + 1) (vcs ((F.locs.set F.many v).take (F.many + 1)))
    rw [e, vcs_append]
    have e2 : vcs [v] = vc v := by simp [vcs]
    rw [e2]
    refine row_touch t1 hrow (fun b e e2 => ?_)
    have e2 : b = rf := e2
    have := (hrow.lt b e).1
    omega
  · have e2 : b = rf := e2
    have := (h.rs.lt b e).1
    omega
  · have e2 : b = rf := e2
    have := (h.rt.lt b e).1
    omega
  · intro u hu
    rcases List.mem_or_eq_of_mem_set hu with hu | rfl
    · exact h.vo u hu
    · exact hv
  · intro b e e2
    rcases hat b e with e3 | e3
    · exact h.d1 b e3 e2
    · have := (h.rs.lt b e2).2; omega
  · intro b e e2
    rcases hat b e with e3 | e3
    · exact h.d2 b e3 e2
    · have := (h.rt.lt b e2).2; omega

def RNewEnd (w : World) (ks ls : List Int) (vs : List V) (e : Ending) (w' : World) : Prop :=
  (NewOk ks ls vs ∧ ∃ base rf la sa ta, e = .returned (.tuple #[.pointer (some ⟨rf, 0, none⟩), .int .i64 0]) ∧ Below w.heap.size w w' ∧ w.heap.size ≤ rf ∧ RfAt w' base rf 0 la sa ta [] (newFr ks ls vs)) ∨
  (¬ NewOk ks ls vs ∧ e = .returned (.tuple #[.pointer none, .int .i64 2]) ∧ Below w.heap.size w w')

/-- What holds at a round's head. -/
def RHead (w wr : World) (rf : Nat) (L : List V) (k : Nat) : Prop := ∃ la, Below rf w wr ∧ RfAt wr (rf + 1) rf 0 la (.slice none 0 0) (.slice none 0 0) [] ⟨L, k, [], 0, fun _ => 0⟩
theorem RHead.step {w wr : World} {rf k : Nat} {L : List V} {la : Value} (hb : Below rf w wr) (h : RfAt wr (rf + 1) rf 0 la (.slice none 0 0) (.slice none 0 0) [] ⟨L, k, [], 0, fun _ => 0⟩) {v : V} (hv : VOk v) (hk : k < 16) {w1 w2 : World} {g' cap' : Nat} (hb2 : Below wr.heap.size wr w1)
    (hown : w2.ownsRow (rf + 1) 37 3 (.slice (some ⟨g', 0, none⟩) (k + 1) cap') (k + 1) (vcs (L.take k) ++ vc v)) (hg : w1.grownBy w2 la.ownBlock) (hor : (Value.slice (some ⟨g', 0, none⟩) (k + 1) cap').ownBlock = la.ownBlock ∨ (Value.slice (some ⟨g', 0, none⟩) (k + 1) cap').ownBlock = some w1.heap.size) :
    RHead w (w2.setCell ⟨rf, 0, none⟩ (.slice (some ⟨g', 0, none⟩) (k + 1) cap')) rf (L.set k v) (k + 1) := by
  have t : Touch (fun b => la.ownBlock = some b) wr w2 := (Touch.of_below hb2 (Nat.le_refl _) _).grown hg (fun j e _ => e.symm ▸ rfl)
  obtain ⟨t2, h2⟩ := h.moreLoc hv hk t (fun b e => e) hown (fun b e => by
    rcases hor with e2 | e2
    · exact .inl (by rw [← e2]; exact e)
    · rw [e2] at e
      have e : w1.heap.size = b := Option.some.inj e
      have := hb2.size
      exact .inr (by omega)) rfl
  exact ⟨_, hb.trans (t2.below (Nat.le_of_lt h.blk.l) (fun b e => h.foot2 b e)), h2⟩

set_option maxRecDepth 100000 in
set_option maxHeartbeats 4000000 in
theorem rnew_any (w : World) (A0 A1 A2 : Option Addr) (n0 n1 n2 c0 c1 c2 : Nat) (ks ls : List Int) (vs : List V) (hA0 : BytesAt w A0 n0 ks) (hA1 : BytesAt w A1 n1 ls) (hA2 : VsAt w A2 n2 vs) (b0 : n0 ≤ 100000) (b1 : n1 ≤ 100000) (b2 : n2 ≤ 100000) :
    Calls Try.prog 17 #[.slice A0 n0 c0, .slice A1 n1 c1, .slice A2 n2 c2] w fun e w' => RNewEnd w ks ls vs e w' := by
  by_cases hsh : n0 ≠ n2 ∨ 16 < n0 + n1
  · refine (rnew_short w A0 A1 A2 n0 n1 n2 c0 c1 c2 hsh b0 b1 b2).mono ?_
    rintro e w' ⟨rfl, rfl⟩
    refine .inr ⟨fun h => ?_, rfl, Below.refl _ _⟩
    have := h.1
    have := h.2.1
    have := hA0.1
    have := hA1.1
    have := hA2.1
    omega
  obtain ⟨i37, hi, hz0, hz1, hz2⟩ := fr_parts info37
  obtain rfl : n0 = n2 := by omega
  have hm : n0 + n1 ≤ 16 := by omega
  have k0 : (n0 : Int) ≤ 16 := by omega
  have k1 : (n1 : Int) ≤ 16 := by omega
  have k2 : (n0 : Int) + (n1 : Int) ≤ 16 := by omega
  have hF : RHead w (w.alloc (.cells #[.slice none 0 0, .slice none 0 0, .int .i64 0, .slice none 0 0] 54)) w.heap.size (List.replicate 16 zv) 0 := by
    refine ⟨.slice none 0 0, (Below.refl _ _).alloc (Nat.le_refl _) _, ⟨Blk.new w #[.slice none 0 0, .slice none 0 0, .int .i64 0, .slice none 0 0] 54, by simp, Nat.zero_le _, Nat.zero_le _, World.ownsRow_nil _ _ _ _, World.ownsRow_nil _ _ _ _, World.ownsRow_nil _ _ _ _, ⟨fun k => rfl, ?_⟩, Nat.zero_le _, ?_, ?_, by omega, by simp, ?_, ?_, ?_⟩⟩
    · intro p hp
      cases hp
    rotate_left
    · intro v hv
      cases hv
    · intro b e
      cases e
    · intro b e
      cases e
    · intro b e
      cases e
    intro v hv
    have := List.eq_of_mem_replicate hv
    subst this
    exact ⟨⟨by decide, by decide⟩, ⟨by decide, by decide⟩, ⟨by decide, by decide⟩⟩
  have HF := Lib.hid hF
  have HA0 := Lib.hid hA0
  have HA1 := Lib.hid hA1
  have HA2 := Lib.hid hA2
  clear hA0 hA1 hA2 hsh hF
  go_enter Try.func17, Try.ntmps17
  go_wp2_with fail
  obtain ⟨W1, hW1⟩ : ∃ W1, w.alloc (.cells #[.slice none 0 0, .slice none 0 0, .int .i64 0, .slice none 0 0] 54) = W1 := ⟨_, rfl⟩
  obtain ⟨rf, hrf⟩ : ∃ rf, w.heap.size = rf := ⟨_, rfl⟩
  rw [hW1, hrf] at HF
  rw [hW1, hrf]
  have HRF := Lib.hid hrf
  clear hW1 hrf
  go_loopw [9] (fun i wr => ∃ k : Nat, k ≤ n0 ∧ i = .int .i64 k ∧ RHead w wr rf (vs.take k ++ List.replicate (16 - k) zv) k ∧ ∀ i (h : i < ks.length) (h2 : i < vs.length), i < k → kindB ks[i] = true ∧ vs[i].1 = ks[i]) (fun i _ => n0 - (intOf i).toNat)
  case atStart => exact ⟨0, by omega, rfl, by simpa using HF.out, fun i _ _ h => absurd h (by omega)⟩
  case round =>
    clear HF
    obtain ⟨k, hk, rfl, hfr, hch⟩ := hrel
    have HFR := Lib.hid hfr
    obtain ⟨la, hbw, hra⟩ := hfr
    by_cases hlt : k < n0
    · have hkl : k < ks.length := by rw [HA0.out.1]; exact hlt
      have hvl : k < vs.length := by rw [HA2.out.1]; exact hlt
      obtain ⟨ga, oa, rfl, hga, hka, ca⟩ := HA0.out.2 k hkl
      obtain ⟨gv, ov, rfl, hgv, hvok, cv0, cv1, cv2⟩ := HA2.out.2 k hvl
      rw [HRF.out] at hga hgv
      have da := (hbw.cell (p := ⟨ga, oa + k, none⟩) hga).trans ca
      have dv0 := (hbw.cell (p := ⟨gv, ov + k * 3, none⟩) hgv).trans cv0
      have dv1 := (hbw.cell (p := ⟨gv, ov + k * 3 + 1, none⟩) hgv).trans cv1
      have dv2 := (hbw.cell (p := ⟨gv, ov + k * 3 + 2, none⟩) hgv).trans cv2
      clear ca cv0 cv1 cv2
      have hk16 : k < 16 := by omega
      have HKIND := Lib.hid (fun W => rkind_any ks[k] W hka.1 hka.2)
      have c0' := hra.blk.c 0 _ rfl
      have f0' := hra.blk.f 0
      have hrl := hra.blk.l
      have hgvl : gv < wr.heap.size := by omega
      have hgal : ga < wr.heap.size := by omega
      obtain ⟨Al, capl, hla⟩ := row_form hra.rl
      dsimp only at hla
      subst hla
      have hrow := hra.rl
      dsimp only at hrow
      have HROW := Lib.hid hrow
      have hbs := hra.bs
      have HRA := Lib.hid hra
      have HBW := Lib.hid hbw
      have HCH := Lib.hid hch
      have hne : ¬ gv = rf := by omega
      have hne2 : ¬ rf = gv := fun e => hne e.symm
      have hne3 : ¬ ga = rf := by omega
      have HREL : Hid (vs[k].1 = ks[k] → kindB ks[k] = true → ∀ i (h : i < ks.length) (h2 : i < vs.length), i < k + 1 → kindB ks[i] = true ∧ vs[i].1 = ks[i]) := by
        apply Lib.hid
        intro a b i h h2 h3
        rcases Nat.lt_or_ge i k with h4 | h4
        · exact hch i h h2 h4
        · obtain rfl : i = k := by omega
          exact ⟨b, a⟩
      have HBAD : Hid (¬ (kindB ks[k] = true ∧ vs[k].1 = ks[k]) → ¬ NewOk ks ls vs) := Lib.hid (fun h h2 => h (h2.2.2.1 k hkl hvl))
      have hk1 : (k : Int) < (n0 : Int) := by omega
      have hk2 : (k : Int) < 16 := by omega
      have HLOC := Lib.hid (loc1 vs hvl hk16)
      have HVOK := Lib.hid hvok
      obtain ⟨v, hv⟩ : ∃ v, vs[k] = v := ⟨_, rfl⟩
      rw [hv] at dv0 dv1 dv2 HLOC HVOK HREL HBAD
      have e8 : IntKind.i64.wrap ((k : Int) + 1) = (k : Int) + 1 := IntWalk.i64_in _ (by omega)
      clear hrow hra hbw hch hvok hv e8
      obtain ⟨x0, x1, x2⟩ := v
      dsimp only at dv0 dv1 dv2 HREL HBAD
      generalize hkk : ks[k] = κ at *
      clear hkk
      have hnm : k + 1 ≤ maxLen := by unfold maxLen; omega
      have hnb : (k + 1) * 24 ≤ 140737488355328 := by omega
      by_cases hkb : kindB κ = true
      · rw [hkb] at HKIND
        by_cases hx : x0 = κ
        · have hxb : (x0 != κ) = false := by simp [hx]
          have HX := Lib.hid hx
          have HKB := Lib.hid hkb
          clear hx hkb HBAD
          go_wp2_with fail
          go_quiet ((go_at_call 25; exact Calls.quiet_of_same (HKIND.out _)))
          go_wp2_with fail
          obtain ⟨WQ, hWQ⟩ : ∃ WQ, wr.drewN nq = WQ := ⟨_, rfl⟩
          have hbq : Below wr.heap.size wr WQ := by rw [← hWQ]; exact below_drewN (Below.refl _ _) nq
          have c0q := (hbq.cell (p := ⟨rf, 0, none⟩) hrl).trans c0'
          have f0q := (hbq.frozen (p := ⟨rf, 0, none⟩) hrl).trans f0'
          have hrlq := Nat.lt_of_lt_of_le hrl hbq.size
          have qv0 := (hbq.cell (p := ⟨gv, ov + k * 3, none⟩) hgvl).trans dv0
          have qv1 := (hbq.cell (p := ⟨gv, ov + k * 3 + 1, none⟩) hgvl).trans dv1
          have qv2 := (hbq.cell (p := ⟨gv, ov + k * 3 + 2, none⟩) hgvl).trans dv2
          have hgvq := Nat.lt_of_lt_of_le hgvl hbq.size
          have hrq := (Touch.of_below hbq (Nat.le_refl _) (fun _ => False)).row HROW.out (fun _ _ _ _ e => e)
          have HRQ := Lib.hid hrq
          have hbsq := Nat.le_trans hbs hbq.size
          have hBW : Below WQ.heap.size WQ (WQ.alloc (.cells #[.int .u8 x0, .int .i64 x1, .int .i64 x2] 37)).drew := below_drew ((Below.refl _ _).alloc (Nat.le_refl _) _)
          have CW := Lib.hid ((hBW.cell (p := ⟨rf, 0, none⟩) hrlq).trans c0q)
          have FW := Lib.hid ((hBW.frozen (p := ⟨rf, 0, none⟩) hrlq).trans f0q)
          have BQ := Lib.hid (hbq.trans (hBW.mono hbq.size))
          rw [hWQ]
          clear hWQ hbq hrq hBW c0' f0' dv0 dv1 dv2 da
          go_region_law (refine step_append_own rfl (.tmp 64) (.tmp 69) 35 rfl (rf + 1) 37 i37 (.agg #[.int .u8 0, .int .i64 0, .int .i64 0]) 3 24 Try.underlying35 hi hz0 hz1 hz2 rfl (by decide) (.slice Al k capl) k (vcs ((vs.take k ++ List.replicate (16 - k) zv).take k)) (by simp [Act.eval, Act.put]) ((HRQ.out.alloc _).drew) ⟨WQ.heap.size, 0, none⟩ 1 1 [.int .u8 x0, .int .i64 x1, .int .i64 x2] (by simp [Act.eval, Act.put]) rfl (three_new WQ (.int .u8 x0) (.int .i64 x1) (.int .i64 x2) 37) (three_one _ _ _) hnm hnb (by simp; omega) ?_; intro v' w' hown hgrow hor; obtain ⟨g', cap', rfl, hg1, hg2⟩ := World.ownsRow.form hown (by omega); have hfr : some rf ≠ (Value.slice Al k capl).ownBlock := (by intro e; have := (HRQ.out.lt rf e.symm).1; omega); have hbl' := hgrow.block rf (by simp; omega) hfr; have hc' := (World.cell?_of_block (a := ⟨rf, 0, none⟩) hbl').trans CW.out; have hf' := (World.frozen?_of_block (a := ⟨rf, 0, none⟩) hbl').trans FW.out; have HOWN := Lib.hid hown; have HGROW := Lib.hid hgrow; have HOR := Lib.hid hor; clear hown hgrow hor hbl')
          all_goals
            have HST := Lib.hid (RHead.step HBW.out HRA.out HVOK.out hk16 BQ.out HOWN.out HGROW.out HOR.out)
            go_wp2_with fail
            go_roundw
            case rel =>
              refine ⟨k + 1, by omega, by go_num, ?_, HREL.out HX.out HKB.out⟩
              have h2 := HST.out
              rw [HLOC.out] at h2
              exact h2
            case measure => simp [intOf]; omega
        · have hxb : (x0 != κ) = true := by rw [bne_iff_ne]; exact hx
          have HBD := Lib.hid (HBAD.out (fun h => hx h.2))
          clear hx HBAD HREL
          go_wp2_with fail
          go_quiet ((go_at_call 25; exact Calls.quiet_of_same (HKIND.out _)))
          go_wp2_with fail
          go_ret2
          exact .inr ⟨HBD.out, rfl, HRF.out ▸ below_drewN HBW.out _⟩
      · have hkb2 : kindB κ = false := by simpa using hkb
        have HBD := Lib.hid (HBAD.out (fun h => hkb h.1))
        rw [hkb2] at HKIND
        clear hkb hkb2 HREL HBAD
        go_wp2_with fail
        go_quiet ((go_at_call 25; exact Calls.quiet_of_same (HKIND.out _)))
        go_wp2_with fail
        go_ret2
        exact .inr ⟨HBD.out, rfl, HRF.out ▸ below_drewN HBW.out _⟩
    · have hkn : n0 = k := by omega
      subst hkn
      have hkl := HA0.out.1
      have hvl := HA2.out.1
      have hll := HA1.out.1
      have hch' : ∀ i (h : i < ks.length) (h2 : i < vs.length), kindB ks[i] = true ∧ vs[i].1 = ks[i] := fun i h h2 => hch i h h2 (by omega)
      have hfr2 : RHead w wr rf (vs ++ (ls.take 0).map lz ++ List.replicate (16 - (vs.length + 0)) zv) (n0 + 0) := by
        have h9 := HFR.out
        rw [List.take_of_length_le (by omega)] at h9
        simpa [hvl] using h9
      have HC1 := Lib.hid hch'
      have HFR2 := Lib.hid hfr2
      have HLEN := Lib.hid (And.intro hkl (And.intro hvl hll))
      clear hch hch' hfr2 hbw hkl hvl hll hra HFR
      go_wp2_with fail
      go_loopw [10] (fun i wr => ∃ j : Nat, j ≤ n1 ∧ i = .int .i64 j ∧ RHead w wr rf (vs ++ (ls.take j).map lz ++ List.replicate (16 - (vs.length + j)) zv) (n0 + j) ∧ ∀ i (h : i < ls.length), i < j → kindB ls[i] = true) (fun i _ => n1 - (intOf i).toNat)
      case atStart => exact ⟨0, by omega, rfl, HFR2.out, fun i _ h => absurd h (by omega)⟩
      case round =>
        clear HFR2
        obtain ⟨j, hj, rfl, hfr, hch⟩ := hrel
        have HFR := Lib.hid hfr
        obtain ⟨la, hbw, hra⟩ := hfr
        by_cases hlt2 : j < n1
        · have hjl : j < ls.length := by rw [HA1.out.1]; exact hlt2
          obtain ⟨ga, oa, rfl, hga, hka, ca⟩ := HA1.out.2 j hjl
          rw [HRF.out] at hga
          have da := (hbw.cell (p := ⟨ga, oa + j, none⟩) hga).trans ca
          clear ca
          have hk16 : n0 + j < 16 := by omega
          have HKIND := Lib.hid (fun W => rkind_any ls[j] W hka.1 hka.2)
          have c0' := hra.blk.c 0 _ rfl
          have f0' := hra.blk.f 0
          have hrl := hra.blk.l
          have hgal : ga < wr.heap.size := by omega
          obtain ⟨Al, capl, hla⟩ := row_form hra.rl
          dsimp only at hla
          subst hla
          have hrow := hra.rl
          dsimp only at hrow
          have HROW := Lib.hid hrow
          have hbs := hra.bs
          have HRA := Lib.hid hra
          have HBW := Lib.hid hbw
          have hne3 : ¬ ga = rf := by omega
          have HREL : Hid (kindB ls[j] = true → ∀ i (h : i < ls.length), i < j + 1 → kindB ls[i] = true) := by
            apply Lib.hid
            intro a i h h3
            rcases Nat.lt_or_ge i j with h4 | h4
            · exact hch i h h4
            · obtain rfl : i = j := by omega
              exact a
          have HBAD : Hid (¬ (kindB ls[j] = true) → ¬ NewOk ks ls vs) := Lib.hid (fun h h2 => h (h2.2.2.2 j hjl))
          have hk1 : (j : Int) < (n1 : Int) := by omega
          have HL2 := Lib.hid (loc2 vs ls hjl (by rw [HLEN.out.2.1]; exact hk16))
          obtain ⟨hka0, hka1⟩ := hka
          clear hrow hra hbw hch
          generalize hkk : ls[j] = κ at *
          clear hkk
          have hnm : n0 + j + 1 ≤ maxLen := by unfold maxLen; omega
          have hnb : (n0 + j + 1) * 24 ≤ 140737488355328 := by omega
          by_cases hkb : kindB κ = true
          · have HKB := Lib.hid hkb
            rw [hkb] at HKIND
            clear hkb HBAD
            go_wp2_with fail
            refine (HKIND.out _).mono ?_
            rintro e w3 ⟨rfl, rfl⟩
            go_wp2_with fail
            obtain ⟨WQ, hWQ⟩ : ∃ WQ, w3 = WQ := ⟨_, rfl⟩
            have hbq : Below w3.heap.size w3 WQ := by rw [← hWQ]; exact Below.refl _ _
            have c0q := (hbq.cell (p := ⟨rf, 0, none⟩) hrl).trans c0'
            have f0q := (hbq.frozen (p := ⟨rf, 0, none⟩) hrl).trans f0'
            have hrlq := Nat.lt_of_lt_of_le hrl hbq.size
            have qa := (hbq.cell (p := ⟨ga, oa + j, none⟩) hgal).trans da
            have hgaq := Nat.lt_of_lt_of_le hgal hbq.size
            have hrq := (Touch.of_below hbq (Nat.le_refl _) (fun _ => False)).row HROW.out (fun _ _ _ _ e => e)
            have HRQ := Lib.hid hrq
            have hbsq := Nat.le_trans hbs hbq.size
            have hBW : Below WQ.heap.size WQ (WQ.alloc (.cells #[.int .u8 κ, .int .i64 0, .int .i64 0] 37)).drew := below_drew ((Below.refl _ _).alloc (Nat.le_refl _) _)
            have CW := Lib.hid ((hBW.cell (p := ⟨rf, 0, none⟩) hrlq).trans c0q)
            have FW := Lib.hid ((hBW.frozen (p := ⟨rf, 0, none⟩) hrlq).trans f0q)
            have BQ := Lib.hid (hbq.trans (hBW.mono hbq.size))
            rw [hWQ]
            clear hWQ hbq hrq hBW c0' f0' da
            go_region_law (refine step_append_own rfl (.tmp 89) (.tmp 95) 35 rfl (rf + 1) 37 i37 (.agg #[.int .u8 0, .int .i64 0, .int .i64 0]) 3 24 Try.underlying35 hi hz0 hz1 hz2 rfl (by decide) (.slice Al (n0 + j) capl) (n0 + j) (vcs ((vs ++ (ls.take j).map lz ++ List.replicate (16 - (vs.length + j)) zv).take (n0 + j))) (by simp [Act.eval, Act.put]) ((HRQ.out.alloc _).drew) ⟨WQ.heap.size, 0, none⟩ 1 1 [.int .u8 κ, .int .i64 0, .int .i64 0] (by simp [Act.eval, Act.put]) rfl (three_new WQ (.int .u8 κ) (.int .i64 0) (.int .i64 0) 37) (three_one _ _ _) hnm hnb (by simp; omega) ?_; intro v' w' hown hgrow hor; obtain ⟨g', cap', rfl, hg1, hg2⟩ := World.ownsRow.form hown (by omega); have hfr : some rf ≠ (Value.slice Al (n0 + j) capl).ownBlock := (by intro e; have := (HRQ.out.lt rf e.symm).1; omega); have hbl' := hgrow.block rf (by simp; omega) hfr; have hc' := (World.cell?_of_block (a := ⟨rf, 0, none⟩) hbl').trans CW.out; have hf' := (World.frozen?_of_block (a := ⟨rf, 0, none⟩) hbl').trans FW.out; have HOWN := Lib.hid hown; have HGROW := Lib.hid hgrow; have HOR := Lib.hid hor; clear hown hgrow hor hbl')
            all_goals
              have HST := Lib.hid (RHead.step HBW.out HRA.out (lz_ok ⟨hka0, hka1⟩) hk16 BQ.out HOWN.out HGROW.out HOR.out)
              go_wp2_with fail
              go_roundw
              case rel =>
                refine ⟨j + 1, by omega, by go_num, ?_, HREL.out HKB.out⟩
                have h2 := HST.out
                have h3 := HL2.out
                rw [HLEN.out.2.1] at h3
                rw [HLEN.out.2.1] at h2 ⊢
                rw [h3] at h2
                exact h2
              case measure => simp [intOf]; omega
          · have hkb2 : kindB κ = false := by simpa using hkb
            have HBD := Lib.hid (HBAD.out hkb)
            rw [hkb2] at HKIND
            clear hkb hkb2 HREL HBAD
            go_wp2_with fail
            refine (HKIND.out _).mono ?_
            rintro e w3 ⟨rfl, rfl⟩
            go_wp2_with fail
            go_ret2
            exact .inr ⟨HBD.out, rfl, HRF.out ▸ HBW.out⟩
        · have hjn : n1 = j := by omega
          subst hjn
          have HC2 := Lib.hid hch
          have HRA := Lib.hid hra
          have HBW := Lib.hid hbw
          clear hch hra hbw
          go_wp2_with fail
          go_ret2
          obtain ⟨l1, l2, l3⟩ := HLEN.out
          refine .inl ⟨⟨by omega, by omega, HC1.out, fun i h => HC2.out i h (by omega)⟩, rf + 1, rf, la, .slice none 0 0, .slice none 0 0, rfl, HRF.out ▸ HBW.out, by have := HRF.out; omega, ?_⟩
          have hra := HRA.out
          unfold newFr
          rw [List.take_of_length_le (by omega)] at hra
          rw [l1, l3]
          rw [l2] at hra
          exact hra
end Go.Proofs.Ythllfeogchbihaa
