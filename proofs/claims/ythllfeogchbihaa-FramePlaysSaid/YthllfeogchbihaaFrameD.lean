/- Frames (package frame): New. -/
import Derived.Test.YthllfeogchbihaaFrameC
import Derived.Carry
namespace Go.Proofs.Ythllfeogchbihaa
open Go.RowKit
set_option linter.unusedSimpArgs false
set_option linter.unusedVariables false

/-- Kinds in a slice. -/
def BytesAt (w : World) (A : Option Addr) (n : Nat) (ks : List Int) : Prop :=
  ks.length = n ∧ ∀ i (h : i < ks.length), ∃ g o, A = some ⟨g, o, none⟩ ∧ g < w.heap.size ∧ (0 ≤ ks[i] ∧ ks[i] ≤ 255) ∧ w.cell? ⟨g, o + i, none⟩ = some (.int .u8 ks[i])
/-- Values in a slice. -/
def VsAt (w : World) (A : Option Addr) (n : Nat) (vs : List V) : Prop :=
  vs.length = n ∧ ∀ i (h : i < vs.length), ∃ g o, A = some ⟨g, o, none⟩ ∧ g < w.heap.size ∧ VOk vs[i] ∧ w.cell? ⟨g, o + i * 3, none⟩ = some (.int .u8 vs[i].1) ∧ w.cell? ⟨g, o + i * 3 + 1, none⟩ = some (.int .i64 vs[i].2.1) ∧ w.cell? ⟨g, o + i * 3 + 2, none⟩ = some (.int .i64 vs[i].2.2)
theorem BytesAt.below {w w' : World} {A : Option Addr} {n : Nat} {ks : List Int} (h : BytesAt w A n ks) (hb : Below w.heap.size w w') : BytesAt w' A n ks :=
  ⟨h.1, fun i hi => by
    obtain ⟨g, o, e, hg, hk, hc⟩ := h.2 i hi
    exact ⟨g, o, e, Nat.lt_of_lt_of_le hg hb.size, hk, (hb.cell (p := ⟨g, _, none⟩) hg).trans hc⟩⟩
theorem VsAt.below {w w' : World} {A : Option Addr} {n : Nat} {vs : List V} (h : VsAt w A n vs) (hb : Below w.heap.size w w') : VsAt w' A n vs :=
  ⟨h.1, fun i hi => by
    obtain ⟨g, o, e, hg, hk, hc, hc1, hc2⟩ := h.2 i hi
    exact ⟨g, o, e, Nat.lt_of_lt_of_le hg hb.size, hk, (hb.cell (p := ⟨g, _, none⟩) hg).trans hc, (hb.cell (p := ⟨g, _, none⟩) hg).trans hc1, (hb.cell (p := ⟨g, _, none⟩) hg).trans hc2⟩⟩
theorem BytesAt.nil (w : World) (A : Option Addr) : BytesAt w A 0 [] := ⟨rfl, fun i h => absurd h (by simp)⟩
theorem VsAt.nil (w : World) (A : Option Addr) : VsAt w A 0 [] := ⟨rfl, fun i h => absurd h (by simp)⟩

def lz (k : Int) : V := (k, 0, 0)
theorem lz_ok {k : Int} (h : 0 ≤ k ∧ k ≤ 255) : VOk (lz k) := by
  refine ⟨h, ?_, ?_⟩
  · show I64 0
    exact ⟨by decide, by decide⟩
  · show I64 0
    exact ⟨by decide, by decide⟩
/-- May these be a frame's? -/
def NewOk (ks ls : List Int) (vs : List V) : Prop :=
  ks.length = vs.length ∧ ks.length + ls.length ≤ 16 ∧ (∀ i (h : i < ks.length) (h2 : i < vs.length), kindB ks[i] = true ∧ vs[i].1 = ks[i]) ∧ ∀ i (h : i < ls.length), kindB ls[i] = true
/-- The new frame. -/
def newFr (ks ls : List Int) (vs : List V) : Fr := ⟨vs ++ ls.map lz ++ List.replicate (16 - (ks.length + ls.length)) zv, ks.length + ls.length, [], 0, fun _ => 0⟩
def NewEnd (w : World) (ks ls : List Int) (vs : List V) (e : Ending) (w' : World) : Prop :=
  (NewOk ks ls vs ∧ ∃ base fg gm, e = .returned (.tuple #[.pointer (some ⟨fg, 0, none⟩), .int .i64 0]) ∧ Below w.heap.size w w' ∧ w.heap.size ≤ fg ∧ w.heap.size ≤ gm ∧ FrAt w' base fg gm 0 none 0 (newFr ks ls vs)) ∨
  (¬ NewOk ks ls vs ∧ e = .returned (.tuple #[.pointer none, .int .i64 2]) ∧ Below w.heap.size w w')

theorem rep_set (xs : List V) (m : Nat) (v : V) : (xs ++ List.replicate (m + 1) zv).set xs.length v = (xs ++ [v]) ++ List.replicate m zv := by
  rw [List.set_append_right _ _ (Nat.le_refl _), Nat.sub_self, List.replicate_succ, List.set_cons_zero, List.append_assoc]
  rfl

/-- The cells of a frame that New makes first. -/
def fresh (M : Int) (gm : Nat) : Array Value := #[Value.int .u8 0, .int .i64 0, .int .i64 0, .int .u8 0, .int .i64 0, .int .i64 0, .int .u8 0, .int .i64 0, .int .i64 0, .int .u8 0, .int .i64 0, .int .i64 0, .int .u8 0, .int .i64 0, .int .i64 0, .int .u8 0, .int .i64 0, .int .i64 0, .int .u8 0, .int .i64 0, .int .i64 0, .int .u8 0, .int .i64 0, .int .i64 0, .int .u8 0, .int .i64 0, .int .i64 0, .int .u8 0, .int .i64 0, .int .i64 0, .int .u8 0, .int .i64 0, .int .i64 0, .int .u8 0, .int .i64 0, .int .i64 0, .int .u8 0, .int .i64 0, .int .i64 0, .int .u8 0, .int .i64 0, .int .i64 0, .int .u8 0, .int .i64 0, .int .i64 0, .int .u8 0, .int .i64 0, .int .i64 0, .int .i64 M, .slice none 0 0, .int .i64 0, .map (some gm)]
theorem fresh_eq (M : Int) (gm : Nat) : (fresh M gm).toList = vcs (List.replicate 16 zv) ++ [.int .i64 M, .slice none 0 0, .int .i64 0, .map (some gm)] := rfl
theorem first_at (w : World) (M : Int) (m : Nat) (hM : M = m) (hm : m ≤ 16) : FrAt ((w.alloc (.map #[] 0)).alloc (.cells (fresh M w.heap.size) 59)) (w.heap.size + 2) (w.heap.size + 1) w.heap.size 0 none 0
    ⟨List.replicate 16 zv, m, [], 0, fun _ => 0⟩ := by
  subst hM
  have hb := Blk.new (w.alloc (.map #[] 0)) (fresh m w.heap.size) 59
  have hs : (w.alloc (.map #[] 0)).heap.size = w.heap.size + 1 := by simp
  rw [hs, fresh_eq] at hb
  refine ⟨hb, by simp, hm, by simp, World.ownsRow_nil _ _ _ _, ⟨.map [], ?_, Maps.isMap_empty, fun k => rfl⟩, fun k => by simp, ?_, by simp, by omega, by omega, by omega, by simp⟩
  · exact (World.ownsMap_made w Try.prog 3 _).alloc _
  · intro v hv
    have := List.eq_of_mem_replicate hv
    subst this
    exact ⟨⟨by decide, by decide⟩, ⟨by decide, by decide⟩, ⟨by decide, by decide⟩⟩

set_option maxRecDepth 100000 in
set_option maxHeartbeats 1000000 in
theorem new_short (w : World) (A0 A1 A2 : Option Addr) (n0 n1 n2 c0 c1 c2 : Nat) (h : n0 ≠ n2 ∨ 16 < n0 + n1) (b0 : n0 ≤ 100000) (b1 : n1 ≤ 100000) (b2 : n2 ≤ 100000) :
    Calls Try.prog 8 #[.slice A0 n0 c0, .slice A1 n1 c1, .slice A2 n2 c2] w fun e w' => e = .returned (.tuple #[.pointer none, .int .i64 2]) ∧ w' = w := by
  have k0 : (n0 : Int) ≤ 100000 := by omega
  have k1 : (n1 : Int) ≤ 100000 := by omega
  by_cases h1 : n0 = n2
  · subst h1
    by_cases h2 : 16 < n0
    · have h3 : (16 : Int) < (n0 : Int) := by omega
      clear h
      go_enter Try.func8, Try.ntmps8
      go_wp2_with fail
      go_ret2
      exact ⟨rfl, rfl⟩
    · have h3 : (n0 : Int) ≤ 16 := by omega
      have h4 : (16 : Int) - (n0 : Int) < (n1 : Int) := by omega
      clear h
      go_enter Try.func8, Try.ntmps8
      go_wp2_with fail
      go_ret2
      exact ⟨rfl, rfl⟩
  · have h3 : ((n0 : Int) != (n2 : Int)) = true := by rw [bne_iff_ne]; omega
    have h4 : (n0 != n2) = true := by rw [bne_iff_ne]; exact h1
    clear h
    go_enter Try.func8, Try.ntmps8
    go_wp2_with fail
    go_ret2
    exact ⟨rfl, rfl⟩
theorem first_world (w : World) (M : Int) : (w.alloc (.map #[] 0)).alloc (.cells (fresh M w.heap.size) 59) = (w.alloc (.map #[] 0)).alloc (.cells #[Value.int .u8 0, .int .i64 0, .int .i64 0, .int .u8 0, .int .i64 0, .int .i64 0, .int .u8 0, .int .i64 0, .int .i64 0, .int .u8 0, .int .i64 0, .int .i64 0, .int .u8 0, .int .i64 0, .int .i64 0, .int .u8 0, .int .i64 0, .int .i64 0, .int .u8 0, .int .i64 0, .int .i64 0, .int .u8 0, .int .i64 0, .int .i64 0, .int .u8 0, .int .i64 0, .int .i64 0, .int .u8 0, .int .i64 0, .int .i64 0, .int .u8 0, .int .i64 0, .int .i64 0, .int .u8 0, .int .i64 0, .int .i64 0, .int .u8 0, .int .i64 0, .int .i64 0, .int .u8 0, .int .i64 0, .int .i64 0, .int .u8 0, .int .i64 0, .int .i64 0, .int .u8 0, .int .i64 0, .int .i64 0, .int .i64 M, .slice none 0 0, .int .i64 0, .map (some w.heap.size)] 59) := rfl

theorem loc1 (vs : List V) {k : Nat} (hk : k < vs.length) (h : k < 16) : (vs.take k ++ List.replicate (16 - k) zv).set k vs[k] = vs.take (k + 1) ++ List.replicate (16 - (k + 1)) zv := by
  have e : 16 - k = (16 - (k + 1)) + 1 := by omega
  have hl : (vs.take k).length = k := by simp; omega
  have := rep_set (vs.take k) (16 - (k + 1)) vs[k]
  rw [hl] at this
  rw [e, this, List.take_succ_eq_append_getElem hk]
theorem loc2 (vs : List V) (ls : List Int) {k : Nat} (hk : k < ls.length) (h : vs.length + k < 16) : (vs ++ (ls.take k).map lz ++ List.replicate (16 - (vs.length + k)) zv).set (vs.length + k) (lz ls[k]) = vs ++ (ls.take (k + 1)).map lz ++ List.replicate (16 - (vs.length + (k + 1))) zv := by
  have e : 16 - (vs.length + k) = (16 - (vs.length + (k + 1))) + 1 := by omega
  have hl : (vs ++ (ls.take k).map lz).length = vs.length + k := by simp; omega
  have := rep_set (vs ++ (ls.take k).map lz) (16 - (vs.length + (k + 1))) (lz ls[k])
  rw [hl] at this
  rw [e, this, List.take_succ_eq_append_getElem hk, List.map_append, List.append_assoc, List.append_assoc]
  simp

set_option maxRecDepth 100000 in
set_option maxHeartbeats 4000000 in
theorem new_any (w : World) (A0 A1 A2 : Option Addr) (n0 n1 n2 c0 c1 c2 : Nat) (ks ls : List Int) (vs : List V) (hA0 : BytesAt w A0 n0 ks) (hA1 : BytesAt w A1 n1 ls) (hA2 : VsAt w A2 n2 vs) (b0 : n0 ≤ 100000) (b1 : n1 ≤ 100000) (b2 : n2 ≤ 100000) :
    Calls Try.prog 8 #[.slice A0 n0 c0, .slice A1 n1 c1, .slice A2 n2 c2] w fun e w' => NewEnd w ks ls vs e w' := by
  by_cases hsh : n0 ≠ n2 ∨ 16 < n0 + n1
  · refine (new_short w A0 A1 A2 n0 n1 n2 c0 c1 c2 hsh b0 b1 b2).mono ?_
    rintro e w' ⟨rfl, rfl⟩
    refine .inr ⟨fun h => ?_, rfl, Below.refl _ _⟩
    have := h.1
    have := h.2.1
    have := hA0.1
    have := hA1.1
    have := hA2.1
    omega
  obtain rfl : n0 = n2 := by omega
  have hm : n0 + n1 ≤ 16 := by omega
  have k0 : (n0 : Int) ≤ 16 := by omega
  have k1 : (n1 : Int) ≤ 16 - (n0 : Int) := by omega
  have k2 : (n0 : Int) + (n1 : Int) ≤ 16 := by omega
  have HF := Lib.hid (first_at w ((n0 : Int) + (n1 : Int)) (n0 + n1) (by omega) hm)
  have HB := Lib.hid (((Below.refl w.heap.size w).alloc (Nat.le_refl _) (.map #[] 0)).alloc (by simp) (.cells (fresh ((n0 : Int) + (n1 : Int)) w.heap.size) 59))
  have HA0 := Lib.hid hA0
  have HA1 := Lib.hid hA1
  have HA2 := Lib.hid hA2
  clear hA0 hA1 hA2 hsh
  have hmm := @run_makeMap Try.prog
  go_enter Try.func8, Try.ntmps8
  go_wp2_with fail
  rw [← first_world w _]
  obtain ⟨W1, hW1⟩ : ∃ W1, (w.alloc (.map #[] 0)).alloc (.cells (fresh ((n0 : Int) + (n1 : Int)) w.heap.size) 59) = W1 := ⟨_, rfl⟩
  rw [hW1] at HF HB ⊢
  obtain ⟨gm, hgm⟩ : ∃ gm, w.heap.size = gm := ⟨_, rfl⟩
  obtain ⟨fg, hfg⟩ : ∃ fg, gm + 1 = fg := ⟨_, rfl⟩
  rw [hgm] at HF HB
  rw [hfg] at HF
  rw [hgm, hfg]
  have HGM := Lib.hid hgm
  have HFG := Lib.hid hfg
  clear hW1 hgm hfg
  go_loopw [41] (fun i wr => ∃ k : Nat, k ≤ n0 ∧ i = .int .i64 k ∧ Below gm w wr ∧ FrAt wr (gm + 2) fg gm 0 none 0 ⟨vs.take k ++ List.replicate (16 - k) zv, n0 + n1, [], 0, fun _ => 0⟩ ∧ ∀ i (h : i < ks.length) (h2 : i < vs.length), i < k → kindB ks[i] = true ∧ vs[i].1 = ks[i]) (fun i _ => n0 - (intOf i).toNat)
  case atStart => exact ⟨0, by omega, rfl, HB.out, by simpa using HF.out, fun i _ _ h => absurd h (by omega)⟩
  case round =>
    obtain ⟨k, hk, rfl, hbw, hfr, hch⟩ := hrel
    by_cases hlt : k < n0
    · have hkl : k < ks.length := by rw [HA0.out.1]; exact hlt
      have hvl : k < vs.length := by rw [HA2.out.1]; exact hlt
      obtain ⟨ga, oa, rfl, hga, hka, ca⟩ := HA0.out.2 k hkl
      obtain ⟨gv, ov, rfl, hgv, hvok, cv0, cv1, cv2⟩ := HA2.out.2 k hvl
      rw [HGM.out] at hga hgv
      have da := (hbw.cell (p := ⟨ga, oa + k, none⟩) hga).trans ca
      have dv0 := (hbw.cell (p := ⟨gv, ov + k * 3, none⟩) hgv).trans cv0
      have dv1 := (hbw.cell (p := ⟨gv, ov + k * 3 + 1, none⟩) hgv).trans cv1
      have dv2 := (hbw.cell (p := ⟨gv, ov + k * 3 + 2, none⟩) hgv).trans cv2
      clear ca cv0 cv1 cv2
      have hk16 : k < 16 := by omega
      have HSET := Lib.hid (hfr.setLoc hk16 vs[k] hvok rfl)
      have HKIND := Lib.hid (fun W => kind_any ks[k] W hka.1 hka.2)
      obtain ⟨-, e0, e1, e2⟩ : True ∧ (∃ x, wr.cell? ⟨fg, k * 3, none⟩ = some x) ∧ (∃ x, wr.cell? ⟨fg, k * 3 + 1, none⟩ = some x) ∧ (∃ x, wr.cell? ⟨fg, k * 3 + 2, none⟩ = some x) := by
        obtain ⟨_, e0, e1, e2⟩ := hfr.cl hk16
        exact ⟨trivial, ⟨_, e0⟩, ⟨_, e1⟩, ⟨_, e2⟩⟩
      obtain ⟨z0, e0⟩ := e0
      obtain ⟨z1, e1⟩ := e1
      obtain ⟨z2, e2⟩ := e2
      have f0 := hfr.blk.f (k * 3)
      have f1 := hfr.blk.f (k * 3 + 1)
      have f2 := hfr.blk.f (k * 3 + 2)
      have hfl := hfr.blk.l
      have HBW := Lib.hid hbw
      have HCH := Lib.hid hch
      have hne : ¬ gv = fg := by have := HFG.out; omega
      have hne2 : ¬ fg = gv := fun e => hne e.symm
      have HREL : Hid (vs[k].1 = ks[k] → kindB ks[k] = true → ∀ i (h : i < ks.length) (h2 : i < vs.length), i < k + 1 → kindB ks[i] = true ∧ vs[i].1 = ks[i]) := by
        apply Lib.hid
        intro a b i h h2 h3
        rcases Nat.lt_or_ge i k with h4 | h4
        · exact hch i h h2 h4
        · obtain rfl : i = k := by omega
          exact ⟨b, a⟩
      have HBAD : Hid (¬ (kindB ks[k] = true ∧ vs[k].1 = ks[k]) → ¬ NewOk ks ls vs) := Lib.hid (fun h h2 => h (h2.2.2.1 k hkl hvl))
      have hk1 : (k : Int) < (n0 : Int) := by omega
      have hk2 : (k : Int) < 16 := by omega
      clear hbw hfr hch hvok HF HB
      generalize hkk : ks[k] = κ at *
      generalize hv0 : vs[k].1 = x0 at *
      generalize hv1 : vs[k].2.1 = x1 at *
      generalize hv2 : vs[k].2.2 = x2 at *
      clear hkk hv0 hv1 hv2
      by_cases hkb : kindB κ = true
      · rw [hkb] at HKIND
        by_cases hx : x0 = κ
        · have hxb : (x0 != κ) = false := by simp [hx]
          have HX := Lib.hid hx
          have HKB := Lib.hid hkb
          clear hx hkb HBAD
          go_wp2_with fail
          refine (HKIND.out _).mono ?_
          rintro e w3 ⟨rfl, rfl⟩
          go_wp2_with fail
          go_region
          go_wp2_with fail
          go_roundw
          case rel =>
            refine ⟨k + 1, by omega, by go_num, below_drew (((HBW.out.setCell (by show gm ≤ fg; have := HFG.out; omega) _).setCell (by show gm ≤ fg; have := HFG.out; omega) _).setCell (by show gm ≤ fg; have := HFG.out; omega) _), ?_, HREL.out HX.out HKB.out⟩
            have h2 := HSET.out.2
            rw [loc1 vs hvl hk16] at h2
            exact h2.below (below_drew (Below.refl _ _))
          case measure => simp [intOf]; omega
        · have hxb : (x0 != κ) = true := by rw [bne_iff_ne]; exact hx
          have hbad := HBAD.out (fun h => hx h.2)
          have HBD := Lib.hid hbad
          clear hx hbad HREL
          go_wp2_with fail
          refine (HKIND.out _).mono ?_
          rintro e w3 ⟨rfl, rfl⟩
          go_wp2_with fail
          go_ret2
          exact .inr ⟨HBD.out, rfl, HGM.out ▸ HBW.out⟩
      · have hkb2 : kindB κ = false := by simpa using hkb
        have hbad := HBAD.out (fun h => hkb h.1)
        have HBD := Lib.hid hbad
        rw [hkb2] at HKIND
        clear hkb hkb2 hbad HREL HBAD
        go_wp2_with fail
        refine (HKIND.out _).mono ?_
        rintro e w3 ⟨rfl, rfl⟩
        go_wp2_with fail
        go_ret2
        exact .inr ⟨HBD.out, rfl, HGM.out ▸ HBW.out⟩
    · have hkn : n0 = k := by omega
      subst hkn
      have hkl := HA0.out.1
      have hvl := HA2.out.1
      have hll := HA1.out.1
      have hch' : ∀ i (h : i < ks.length) (h2 : i < vs.length), kindB ks[i] = true ∧ vs[i].1 = ks[i] := fun i h h2 => hch i h h2 (by omega)
      have hfr2 : FrAt wr (gm + 2) fg gm 0 none 0 ⟨vs ++ (ls.take 0).map lz ++ List.replicate (16 - (vs.length + 0)) zv, n0 + n1, [], 0, fun _ => 0⟩ := by
        rw [List.take_of_length_le (by omega)] at hfr
        simpa [hvl] using hfr
      have HC1 := Lib.hid hch'
      have HFR2 := Lib.hid hfr2
      have HBW := Lib.hid hbw
      have HLEN := Lib.hid (And.intro hkl (And.intro hvl hll))
      clear HF HB hch hch' hfr hfr2 hbw hkl hvl hll
      go_wp2_with fail
      go_loopw [70] (fun i wr => ∃ j : Nat, j ≤ n1 ∧ i = .int .i64 j ∧ Below gm w wr ∧ FrAt wr (gm + 2) fg gm 0 none 0 ⟨vs ++ (ls.take j).map lz ++ List.replicate (16 - (vs.length + j)) zv, n0 + n1, [], 0, fun _ => 0⟩ ∧ ∀ i (h : i < ls.length), i < j → kindB ls[i] = true) (fun i _ => n1 - (intOf i).toNat)
      case atStart => exact ⟨0, by omega, rfl, HBW.out, HFR2.out, fun i _ h => absurd h (by omega)⟩
      case round =>
        clear HFR2 HBW
        obtain ⟨j, hj, rfl, hbw, hfr, hch⟩ := hrel
        by_cases hlt2 : j < n1
        · have hjl : j < ls.length := by rw [HA1.out.1]; exact hlt2
          obtain ⟨ga, oa, rfl, hga, hka, ca⟩ := HA1.out.2 j hjl
          rw [HGM.out] at hga
          have da := (hbw.cell (p := ⟨ga, oa + j, none⟩) hga).trans ca
          clear ca
          have hk16 : n0 + j < 16 := by omega
          have HSET := Lib.hid (hfr.setLoc hk16 (lz ls[j]) (lz_ok hka) rfl)
          have HKIND := Lib.hid (fun W => kind_any ls[j] W hka.1 hka.2)
          obtain ⟨-, e0, e1, e2⟩ : True ∧ (∃ x, wr.cell? ⟨fg, (n0 + j) * 3, none⟩ = some x) ∧ (∃ x, wr.cell? ⟨fg, (n0 + j) * 3 + 1, none⟩ = some x) ∧ (∃ x, wr.cell? ⟨fg, (n0 + j) * 3 + 2, none⟩ = some x) := by
            obtain ⟨_, e0, e1, e2⟩ := hfr.cl hk16
            exact ⟨trivial, ⟨_, e0⟩, ⟨_, e1⟩, ⟨_, e2⟩⟩
          obtain ⟨z0, e0⟩ := e0
          obtain ⟨z1, e1⟩ := e1
          obtain ⟨z2, e2⟩ := e2
          have f0 := hfr.blk.f ((n0 + j) * 3)
          have f1 := hfr.blk.f ((n0 + j) * 3 + 1)
          have f2 := hfr.blk.f ((n0 + j) * 3 + 2)
          have hfl := hfr.blk.l
          have HBW := Lib.hid hbw
          have HREL : Hid (kindB ls[j] = true → ∀ i (h : i < ls.length), i < j + 1 → kindB ls[i] = true) := by
            apply Lib.hid
            intro a i h h3
            rcases Nat.lt_or_ge i j with h4 | h4
            · exact hch i h h4
            · obtain rfl : i = j := by omega
              exact a
          have HBAD : Hid (¬ (kindB ls[j] = true) → ¬ NewOk ks ls vs) := Lib.hid (fun h h2 => h (h2.2.2.2 j hjl))
          have hk1 : (j : Int) < (n1 : Int) := by omega
          have hk2 : (n0 : Int) + (j : Int) < 16 := by omega
          have hk3 : ((n0 : Int) + (j : Int)).toNat = n0 + j := by omega
          have HL2 := Lib.hid (loc2 vs ls hjl (by rw [HLEN.out.2.1]; exact hk16))
          clear hbw hfr hch
          unfold lz at HSET
          dsimp only at HSET
          generalize hkk : ls[j] = κ at *
          clear hkk
          by_cases hkb : kindB κ = true
          · have HKB := Lib.hid hkb
            rw [hkb] at HKIND
            clear hkb HBAD
            go_wp2_with fail
            refine (HKIND.out _).mono ?_
            rintro e w3 ⟨rfl, rfl⟩
            go_wp2_with fail
            go_roundw
            case rel =>
              refine ⟨j + 1, by omega, by go_num, ((HBW.out.setCell (by show gm ≤ fg; have := HFG.out; omega) _).setCell (by show gm ≤ fg; have := HFG.out; omega) _).setCell (by show gm ≤ fg; have := HFG.out; omega) _, ?_, HREL.out HKB.out⟩
              have h2 := HSET.out.2
              have h3 := HL2.out
              rw [HLEN.out.2.1] at h3
              rw [HLEN.out.2.1] at h2 ⊢
              rw [← h3]
              exact h2
            case measure => simp [intOf]; omega
          · have hkb2 : kindB κ = false := by simpa using hkb
            have hbad := HBAD.out hkb
            have HBD := Lib.hid hbad
            rw [hkb2] at HKIND
            clear hkb hkb2 hbad HREL HBAD
            go_wp2_with fail
            refine (HKIND.out _).mono ?_
            rintro e w3 ⟨rfl, rfl⟩
            go_wp2_with fail
            go_ret2
            exact .inr ⟨HBD.out, rfl, HGM.out ▸ HBW.out⟩
        · have hjn : n1 = j := by omega
          subst hjn
          have HFR := Lib.hid hfr
          have HBW := Lib.hid hbw
          have HC2 := Lib.hid hch
          clear hfr hbw hch
          go_wp2_with fail
          go_ret2
          obtain ⟨l1, l2, l3⟩ := HLEN.out
          refine .inl ⟨⟨by omega, by omega, HC1.out, fun i h => HC2.out i h (by omega)⟩, gm + 2, fg, gm, rfl, HGM.out ▸ HBW.out, by have := HGM.out; have := HFG.out; omega, by have := HGM.out; omega, ?_⟩
          have hfr := HFR.out
          unfold newFr
          rw [List.take_of_length_le (by omega)] at hfr
          rw [l1, l3]
          rw [l2] at hfr
          exact hfr

end Go.Proofs.Ythllfeogchbihaa
