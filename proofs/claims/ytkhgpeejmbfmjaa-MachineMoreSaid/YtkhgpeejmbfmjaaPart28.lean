/- Parts of the walk, joined. -/
import Derived.Test.YtkhgpeejmbfmjaaPart27
import Derived.Test.YtkhgpeejmbfmjaaPart05
import Derived.Deep.LoopGhost
import Derived.Deep.RegionHeld3
import Derived.BigRegion
/- The run begins. -/
namespace Go.Proofs.Ytkhgpeejmbfmjaa
open Go.RowKit
set_option linter.unusedSimpArgs false
set_option linter.unusedVariables false
set_option maxRecDepth 100000
section
variable {w0 W : World} {X : Sx} {rb : Nat} {fgs : List Nat} {c : Nat} {s : Mc} {K : Nat → Prop} {fg : Nat}

set_option maxHeartbeats 8000000 in
theorem begin_yes {Mg : Option Addr} {nmg cmg : Nat} {mgs : List V} {Aa : Option Addr} {na ca : Nat} {vs : List V} {Ab : Option Addr} {ng cb : Nat} {gs : List V} (h : Given W X Mg nmg cmg mgs Aa na vs Ab ng gs) (i : Int) (h1 : inB i ((X.nm : Int) - 1) = true) (h2 : inB X.l.fuel 1048576 = true) (h3 : inB X.l.stack 256 = true) (h4 : inB X.l.heap 1024 = true) (h5 : outB vs (X.m.at i.toNat).args = true) (h6 : outB gs X.m.gk = true) (h7 : newB (X.m.at i.toNat).args (X.m.at i.toNat).locs vs = true) :
    Calls Try.prog 13 #[modV X, .int .i64 i, .slice Aa na ca, .slice Ab ng cb, limV X.l] W fun e W' => ∃ rb' fg gh, e = .returned (.tuple #[.pointer (some ⟨rb', 0, none⟩), .bool true]) ∧ RunAt W W' { X with gh := gh } rb' [fg] 0 (begin0 X.m i.toNat vs gs) (fun b => b < W.heap.size) ∧ W.heap.size ≤ rb' := by
  have hb0 : Below W.heap.size W ((W.alloc (.cells #[X.mg, .slice X.mp X.np X.cp, .slice X.mm X.nm X.cm, .int .i64 X.mi] 25)).alloc (.cells #[.int .i64 X.l.fuel, .int .i64 X.l.stack, .int .i64 X.l.heap] 33)) := ((Below.refl _ _).alloc (Nat.le_refl _) _).alloc (by simp) _
  have HB0 := Lib.hid hb0
  have hnm := h.md.nm
  have wn : IntKind.i64.wrap ((X.nm : Int) - 1) = (X.nm : Int) - 1 := IntWalk.i64_in _ (by omega)
  unfold modV limV
  have I1 := Lib.hid (in_say i ((X.nm : Int) - 1) h1)
  have I2 := Lib.hid (in_say X.l.fuel 1048576 h2)
  have I3 := Lib.hid (in_say X.l.stack 256 h3)
  have I4 := Lib.hid (in_say X.l.heap 1024 h4)
  obtain ⟨k, rfl, hk⟩ := inB_nat h1
  have hk2 : k < X.m.mts.length := by rw [h.md.ml]; exact hk
  obtain ⟨g, o, hmm, hgl, Ba, nb, cbb, Bl, nl, cl, Ac, nc, cc, rd, y1, y2, y3, m0, m1, -, -, -, -, -, -, hba, hbl, -, hnb, hnl, -, -⟩ := h.md.mts k hk2
  obtain ⟨x, hx⟩ : ∃ x, X.m.at k = x := ⟨_, rfl⟩
  have hxe : X.m.mts[k] = x := by rw [← hx, Md.at_eq hk2]
  rw [hxe] at hba hbl
  rw [Int.toNat_natCast, hx] at h5 h7
  rw [Int.toNat_natCast]
  have hkn : (k : Int) < (X.nm : Int) := by omega
  have hk0 : 0 ≤ (k : Int) := by omega
  obtain ⟨W1, t5, hW1, ht5, hb01, B5, B9⟩ : ∃ (W1 : World) (t5 : Nat), ((W.alloc (.cells #[X.mg, .slice X.mp X.np X.cp, .slice X.mm X.nm X.cm, .int .i64 X.mi] 25)).alloc (.cells #[.int .i64 X.l.fuel, .int .i64 X.l.stack, .int .i64 X.l.heap] 33)) = W1 ∧ W.heap.size = t5 ∧ Below W.heap.size W W1 ∧ Blk W1 t5 [X.mg, .slice X.mp X.np X.cp, .slice X.mm X.nm X.cm, .int .i64 X.mi] ∧ Blk W1 (t5 + 1) [.int .i64 X.l.fuel, .int .i64 X.l.stack, .int .i64 X.l.heap] := by
    refine ⟨_, _, rfl, rfl, hb0, (Blk.new W _ 25).alloc _, ?_⟩
    have := Blk.new (W.alloc (.cells #[X.mg, .slice X.mp X.np X.cp, .slice X.mm X.nm X.cm, .int .i64 X.mi] 25)) #[.int .i64 X.l.fuel, .int .i64 X.l.stack, .int .i64 X.l.heap] 33
    simpa using this
  rw [h.mg, hmm] at hW1
  have HMM := Lib.hid hmm
  have HKX := Lib.hid hk2
  have HXX := Lib.hid hx
  have HGL := Lib.hid (And.intro hgl (And.intro m0 m1))
  obtain ⟨hn, hhn, hhn2⟩ : ∃ n : Nat, X.l.heap = n ∧ n ≤ 1024 := by have := of_decide_eq_true h4; exact ⟨X.l.heap.toNat, by omega, by omega⟩
  have HHN := Lib.hid (And.intro hhn hhn2)
  have HE := Lib.hid (And.intro hW1 ht5)
  have H0 := Lib.hid (And.intro h (And.intro hb01 (And.intro B5 (And.intro B9 (And.intro hba hbl)))))
  have HO1 := Lib.hid (outside_any Aa Ba na ca nb cbb vs x.args W1 (h.va.below hb01) (hba.below hb01) (by have := h.na; omega) (by omega))
  rw [h5] at HO1
  have n0 : W1.cell? ⟨g, o + k * 8, none⟩ = some (.slice Ba nb cbb) := (hb01.cell (p := ⟨g, _, none⟩) hgl).trans m0
  have n1 : W1.cell? ⟨g, o + k * 8 + 1, none⟩ = some (.slice Bl nl cl) := (hb01.cell (p := ⟨g, _, none⟩) hgl).trans m1
  have gl1 : g < W1.heap.size := Nat.lt_of_lt_of_le hgl hb01.size
  have b0 : W1.cell? ⟨t5, 0, none⟩ = some (.slice Mg nmg cmg) := by rw [← h.mg]; exact B5.c 0 _ rfl
  have b2 : W1.cell? ⟨t5, 2, none⟩ = some (.slice (some ⟨g, o, none⟩) X.nm X.cm) := by rw [← hmm]; exact B5.c 2 _ rfl
  have bl5 := B5.l
  rw [h.mg, hmm]
  have H6 := Lib.hid h6
  have H7 := Lib.hid h7
  clear hhn hhn2 hb0 HB0 h hnm hk hk2 hx hxe hba hbl hmm hgl m0 m1 hW1 ht5 hb01 B5 B9 h1 h2 h3 h4 h5 h6 h7
  go_enter Try.func13, Try.ntmps13
  go_wp2_with fail
  refine (I1.out _).mono ?_
  rintro e w2 ⟨rfl, rfl⟩
  go_wp2_with fail
  refine (I2.out _).mono ?_
  rintro e w2 ⟨rfl, rfl⟩
  go_wp2_with fail
  refine (I3.out _).mono ?_
  rintro e w2 ⟨rfl, rfl⟩
  go_wp2_with fail
  refine (I4.out _).mono ?_
  rintro e w2 ⟨rfl, rfl⟩
  rw [HE.out.1, HE.out.2]
  clear HE
  go_wp2_with fail
  refine HO1.out.mono ?_
  rintro e w3 ⟨rfl, hb3⟩
  have h := H0.out.1
  have hb13 := below_next H0.out.2.1 hb3
  have HK := Lib.hid (kinds_any Mg nmg cmg mgs w3 (h.vm.below hb13) (by have := h.nmg; omega))
  have b03 : w3.cell? ⟨t5, 0, none⟩ = some (.slice Mg nmg cmg) := (hb3.cell (p := ⟨t5, 0, none⟩) bl5).trans b0
  have bl53 : t5 < w3.heap.size := Nat.lt_of_lt_of_le bl5 hb3.size
  have H3 := Lib.hid (And.intro hb3 hb13)
  clear hb3 hb13 h
  go_wp2_with fail
  refine HK.out.mono ?_
  rintro e w4 ⟨A4, c4, rfl, hb4, hby⟩
  have h := H0.out.1
  have hb14 := below_next H3.out.2 hb4
  have HO2 := Lib.hid (outside_any Ab A4 ng cb nmg c4 gs (mgs.map (·.1)) w4 (h.vg.below hb14) hby (by have := h.ng; omega) (by have := h.nmg; omega))
  rw [← h.gk] at HO2
  have HO2 := HO2
  have H4 := Lib.hid (And.intro (below_next H3.out.1 hb4) hb14)
  clear hb4 hb14 hby h b03 bl53
  go_wp2_with fail
  rw [H6.out] at HO2
  refine HO2.out.mono ?_
  rintro e w5 ⟨rfl, hb5⟩
  have h := H0.out.1
  have hb15 := below_next H4.out.1 hb5
  have hb05 := below_next H4.out.2 hb5
  have B5 := H0.out.2.2.1.below hb15
  have B9 := H0.out.2.2.2.1.below hb15
  have HCL : Hid (∀ V, Below w5.heap.size w5 V → Calls Try.prog 16 #[.slice Ab ng cb] V fun e w' => CloneV V ng gs e w') := Lib.hid (fun V hb => clone_any Ab ng cb gs V (h.vg.below (below_next hb05 hb)) (by have := h.ng; omega))
  rw [h.mg, (show X.mm = some ⟨g, o, none⟩ from HMM.out)] at B5
  have hk5 := s7_of B5.drew B9.drew
  have HK5 := Lib.hid (And.intro B5 B9)
  have H5 := Lib.hid (And.intro hb15 hb05)
  have sc0 := B5.c 0 _ rfl
  clear hb5 hb15 hb05 h B5 B9 sc0
  go_upto_region 5 with fail
  go_region_held3 (fun w' => w'.cell? ⟨t5, 0, none⟩ = some (.slice Mg nmg cmg) ∧ w'.cell? ⟨t5, 1, none⟩ = some (.slice X.mp X.np X.cp) ∧ w'.cell? ⟨t5, 2, none⟩ = some (.slice (some ⟨g, o, none⟩) X.nm X.cm) ∧ w'.cell? ⟨t5, 3, none⟩ = some (.int .i64 X.mi) ∧
      w'.cell? ⟨t5 + 1, 0, none⟩ = some (.int .i64 X.l.fuel) ∧ w'.cell? ⟨t5 + 1, 1, none⟩ = some (.int .i64 X.l.stack) ∧ w'.cell? ⟨t5 + 1, 2, none⟩ = some (.int .i64 X.l.heap))
    ((first | (with_reducible exact s7_of (HK6.out.1.alloc _) (HK6.out.2.alloc _)) | (with_reducible exact s7_of HK6.out.1 HK6.out.2) | (with_reducible exact hk5) | fail))
    (first
      | (go_at_call 16; refine (HCL.out _ (by with_reducible exact below_drew (Below.refl _ _))).mono ?_; rintro e w6 ⟨Ag, cg, rfl, hb6, hg6⟩
         have HK6 := Lib.hid (And.intro (HK5.out.1.drew.below hb6) (HK5.out.2.drew.below hb6))
         have HG6 := Lib.hid (And.intro hb6 hg6)
         clear hb6 hg6)
      | fail)
  go_upto_region 6 with fail
  obtain ⟨w7, hw7⟩ : ∃ V, (w6.alloc (.cells #[.slice Mg nmg cmg, .slice X.mp X.np X.cp, .slice (some ⟨g, o, none⟩) X.nm X.cm, .int .i64 X.mi, .slice none 0 0, .slice none 0 0, .pointer none, .slice Ag ng cg, .int .i64 X.l.fuel, .int .i64 X.l.stack, .int .i64 X.l.heap, .int .i64 0, .int .i64 0, .int .i64 0, .int .i64 0, .bool false, .int .i64 0, .int .u8 0, .int .i64 0, .int .i64 0] 58)) = V := ⟨_, rfl⟩
  have hb67 : Below w6.heap.size w6 w7 := by rw [← hw7]; exact (Below.refl _ _).alloc (Nat.le_refl _) _
  have B20 : Blk w7 w6.heap.size [.slice Mg nmg cmg, .slice X.mp X.np X.cp, .slice (some ⟨g, o, none⟩) X.nm X.cm, .int .i64 X.mi, .slice none 0 0, .slice none 0 0, .pointer none, .slice Ag ng cg, .int .i64 X.l.fuel, .int .i64 X.l.stack, .int .i64 X.l.heap, .int .i64 0, .int .i64 0, .int .i64 0, .int .i64 0, .bool false, .int .i64 0, .int .u8 0, .int .i64 0, .int .i64 0] := by rw [← hw7]; exact Blk.new _ _ _
  rw [hw7]
  clear hw7
  obtain ⟨rb, hrb⟩ : ∃ b, w6.heap.size = b := ⟨_, rfl⟩
  rw [hrb] at B20
  rw [hrb]
  have h92 := (HK6.out.2.below hb67).c 2 _ rfl
  have h9l := (HK6.out.2.below hb67).l
  have HNEW := Lib.hid (hx_new hn w7 HHN.out.2)
  rw [← HHN.out.1] at HNEW
  have H7w := Lib.hid (And.intro hb67 (And.intro hrb B20))
  clear hb67 hrb B20 hk5
  go_wp2_with fail
  refine HNEW.out.mono ?_
  rintro e w8 ⟨gh, gw, rfl, hH⟩
  have B208 := H7w.out.2.2.below hH.bw
  have x6 := B208.c 6 _ rfl
  have x6f := B208.f 6
  have xl := B208.l
  have HH8 := Lib.hid (And.intro hH B208)
  clear hH B208 h92 h9l
  go_upto_region 7 with fail
  obtain ⟨w9, hw9⟩ : ∃ V, w8.setCell ⟨rb, 6, none⟩ (.pointer (some ⟨gh, 0, none⟩)) = V := ⟨_, rfl⟩
  have t89 : Touch (fun b => b = rb) w8 w9 := by rw [← hw9]; exact (Touch.refl _ _).setCell _ _ (fun _ => rfl)
  have B209 : Blk w9 rb [.slice Mg nmg cmg, .slice X.mp X.np X.cp, .slice (some ⟨g, o, none⟩) X.nm X.cm, .int .i64 X.mi, .slice none 0 0, .slice none 0 0, .pointer (some ⟨gh, 0, none⟩), .slice Ag ng cg, .int .i64 X.l.fuel, .int .i64 X.l.stack, .int .i64 X.l.heap, .int .i64 0, .int .i64 0, .int .i64 0, .int .i64 0, .bool false, .int .i64 0, .int .u8 0, .int .i64 0, .int .i64 0] := by rw [← hw9]; exact HH8.out.2.set (j := 6) rfl _
  rw [hw9]
  clear hw9 x6 x6f xl
  have hrb6 := H7w.out.2.1
  have hb08 : Below W.heap.size W w8 := below_next (below_next (below_next (below_next H5.out.2 (below_drew (Below.refl _ _))) HG6.out.1) H7w.out.1) HH8.out.1.bw
  have hrbW : W.heap.size ≤ rb := by rw [← hrb6]; exact (below_next (below_next H5.out.2 (below_drew (Below.refl _ _))) HG6.out.1).size
  have hb09 : Below W.heap.size W w9 := hb08.trans (t89.below hb08.size (fun b e => by have e : b = rb := e; rw [e]; exact hrbW))
  have hgl := H0.out.1.md
  have hne5 : t5 ≠ rb := by have := HK6.out.1.l; omega
  have B58 := ((HK6.out.1.below H7w.out.1).below HH8.out.1.bw).touch t89 hne5
  have z2 := B58.c 2 _ rfl
  have q0 : w9.cell? ⟨g, o + k * 8, none⟩ = some (.slice Ba nb cbb) := (hb09.cell (p := ⟨g, _, none⟩) HGL.out.1).trans HGL.out.2.1
  have q1 : w9.cell? ⟨g, o + k * 8 + 1, none⟩ = some (.slice Bl nl cl) := (hb09.cell (p := ⟨g, _, none⟩) HGL.out.1).trans HGL.out.2.2
  have gl9 : g < w9.heap.size := Nat.lt_of_lt_of_le HGL.out.1 hb09.size
  have HS9 : Hid (∀ V, Below w9.heap.size w9 V → V.cell? ⟨t5, 2, none⟩ = some (.slice (some ⟨g, o, none⟩) X.nm X.cm) ∧ V.cell? ⟨g, o + k * 8, none⟩ = some (.slice Ba nb cbb) ∧ V.cell? ⟨g, o + k * 8 + 1, none⟩ = some (.slice Bl nl cl)) := Lib.hid (fun V hb => ⟨(hb.cell (p := ⟨t5, 2, none⟩) B58.l).trans z2, (hb.cell (p := ⟨g, _, none⟩) gl9).trans q0, (hb.cell (p := ⟨g, _, none⟩) gl9).trans q1⟩)
  have hk9 := HS9.out _ (below_drew (Below.refl _ _))
  have hbd : Below W.heap.size W w9.drew := below_drew hb09
  have HNW := Lib.hid (fo_new w9.drew Ba Bl Aa nb nl na cbb cl ca x.args x.locs vs (H0.out.2.2.2.2.1.below hbd) (H0.out.2.2.2.2.2.below hbd) (H0.out.1.va.below hbd) (by omega) (by omega) (by have := H0.out.1.na; omega) ((newB_iff _ _ _).1 H7.out))
  have H9 := Lib.hid (And.intro t89 (And.intro B209 (And.intro hb08 (And.intro hrbW hb09))))
  clear t89 B209 hb08 hb09 hrbW hgl B58 hrb6 hne5 hbd
  go_region_held3 (fun V => V.cell? ⟨t5, 2, none⟩ = some (.slice (some ⟨g, o, none⟩) X.nm X.cm) ∧ V.cell? ⟨g, o + k * 8, none⟩ = some (.slice Ba nb cbb) ∧ V.cell? ⟨g, o + k * 8 + 1, none⟩ = some (.slice Bl nl cl))
    ((first | (with_reducible exact hk10) | (with_reducible exact hk9) | fail))
    (first
      | (go_at_call 21; refine HNW.out.mono ?_; rintro e w10 ⟨fg2, rfl, hFO⟩
         have hk10 := HS9.out _ (below_next (below_drew (Below.refl _ _)) hFO.bw)
         have HFO := Lib.hid hFO
         clear hFO)
      | fail)
  go_upto_region 10 with fail
  obtain ⟨own, hI, hoB, ho0⟩ : ∃ own, RunIn W w10 { X with gh := gh } rb [] 0 (s00 gs) (fun b => b < w10.heap.size ∧ own b = 0) own none 0 none 0 gh gw Ag cg ∧ (∀ b, w8.heap.size ≤ b → own b = 0) ∧ ∀ b, b < W.heap.size → own b = 0 := by
    have h := H0.out.1
    obtain ⟨t89, B209, hb08, hrbW, hb09⟩ := H9.out
    have hb910 : Below w9.heap.size w9 w10 := below_next (below_drew (Below.refl _ _)) HFO.out.bw
    have hb010 := below_next hb09 hb910
    have hrb6 := H7w.out.2.1
    have hs67 := H7w.out.1.size
    have hs78 := HH8.out.1.bw.size
    have hs89 := t89.size
    have hs90 := hb910.size
    have hrb7 : rb < w7.heap.size := H7w.out.2.2.l
    have hbW7 : Below W.heap.size W w7 := below_next (below_next (below_next H5.out.2 (below_drew (Below.refl _ _))) HG6.out.1) H7w.out.1
    have hX1 := ((HH8.out.1.base hbW7).less (K' := Oth (fun b => if w7.heap.size ≤ b ∧ b < w8.heap.size then 2 else 0) 2 w8) (by
      rintro b ⟨h1, h2⟩
      have : ¬ (w7.heap.size ≤ b ∧ b < w8.heap.size) := fun hp => h2 (if_pos hp)
      omega))
    have hX2 := hX1.other t89 (fun b hb e => by
      have e : b = rb := e
      refine ⟨?_, by rw [e]; exact hrbW⟩
      show (if w7.heap.size ≤ b ∧ b < w8.heap.size then 2 else 0) ≠ 2
      rw [if_neg (by omega)]
      decide) 0
    have hX3 := hX2.other (Touch.of_below hb910 (Nat.le_refl _) (fun _ => False)) (fun b hb e => e.elim) 0
    have hX4 := hX3.less (K' := fun b => b < w10.heap.size ∧ ¬ (w7.heap.size ≤ b ∧ b < w8.heap.size)) (by
      rintro b ⟨h1, h2⟩
      refine ⟨h1, ?_⟩
      by_cases hb9 : b < w9.heap.size
      · rw [relab_old hb9]
        by_cases hb8 : b < w8.heap.size
        · rw [relab_old hb8, if_neg h2]; decide
        · rw [relab_new hb8]; decide
      · rw [relab_new hb9]; decide)
    have hB10 := B209.below hb910
    have hgl := h.vg.1
    refine RunIn.first (X := { X with gh := gh }) (B1 := w7.heap.size) (B2 := w8.heap.size) hb010 ?_ hrbW ?_ hrb7 hs78 ?_ ⟨h.md.pool, h.md.np, h.md.ml, h.md.mts, h.md.nm⟩ (vs_ok h.vg) (by rw [hgl]; exact h.ng)
    · have e : rcells { X with gh := gh } (.slice none 0 0) (.slice none 0 0) gh (.slice Ag gs.length cg) (s00 gs) = [.slice Mg nmg cmg, .slice X.mp X.np X.cp, .slice (some ⟨g, o, none⟩) X.nm X.cm, .int .i64 X.mi, .slice none 0 0, .slice none 0 0, .pointer (some ⟨gh, 0, none⟩), .slice Ag ng cg, .int .i64 X.l.fuel, .int .i64 X.l.stack, .int .i64 X.l.heap, .int .i64 0, .int .i64 0, .int .i64 0, .int .i64 0, .bool false, .int .i64 0, .int .u8 0, .int .i64 0, .int .i64 0] := by
        unfold rcells s00 zv
        dsimp only
        rw [h.mg, HMM.out, hgl]
      show Blk w10 rb (rcells { X with gh := gh } (.slice none 0 0) (.slice none 0 0) gh (.slice Ag gs.length cg) (s00 gs))
      rw [e]
      exact hB10
    · have e : ({ X with gh := gh } : Sx).l.heap.toNat = hn := by show X.l.heap.toNat = hn; rw [HHN.out.1]; rfl
      rw [e]
      exact hX4
    · rcases HG6.out.2 with e | ⟨gb, e1, e2, e3⟩
      · exact .inl e
      · have hgl6 := e3.l
        have hn5 := H5.out.2.size
        have e2 : w5.heap.size ≤ gb := e2
        exact .inr ⟨gb, e1, by omega, by omega, (((e3.below H7w.out.1).below HH8.out.1.bw).touch t89 (by omega)).below hb910⟩
  have HFP : Hid (FO W w10 fg2 0 (newFr x.args x.locs vs) (fun b => b < w10.heap.size ∧ ¬ (w9.heap.size ≤ b ∧ b < w10.heap.size))) := Lib.hid (by
    refine (HFO.out.less ?_).base (below_drew H9.out.2.2.2.2)
    rintro b ⟨h1, h2⟩
    show b < w9.heap.size
    have h2 : ¬ (w9.heap.size ≤ b ∧ b < w10.heap.size) := h2
    omega)
  have hkx := HKX.out
  have hrb3 : rb < w10.heap.size := hI.blk.l
  obtain ⟨ia, hia, hia0, hia1, hia2⟩ := fr_parts info66
  obtain ⟨ib, hib, hib0, hib1, hib2⟩ := fr_parts info3
  refine wp_region_J (by kernel_rfl) (by kernel_rfl) (fun L a V => ∃ v0 v1 v2 v3 v4 v5 v6 v7 v8 v9 v10 v11 v12 v13 v14 v15 v16 v17 v18 v19, a = { tmps := #[Value.agg #[Value.slice Mg nmg cmg, Value.slice X.mp X.np X.cp, Value.slice (some { block := g, off := o }) X.nm X.cm, Value.int IntKind.i64 X.mi], Value.int IntKind.i64 ↑k, Value.slice Aa na ca, Value.slice Ab ng cb, Value.agg #[Value.int IntKind.i64 X.l.fuel, Value.int IntKind.i64 X.l.stack, Value.int IntKind.i64 X.l.heap], Value.pointer (some { block := t5, off := 0 }), undef, undef, undef, Value.pointer (some { block := t5 + 1, off := 0 }), Value.pointer none, Value.bool false, Value.pointer (some { block := rb, off := 0 }), Value.pointer (some { block := fg2, off := 0 }), Value.int IntKind.i64 0, Value.int IntKind.i64 ↑k, Value.pointer (some { block := t5, off := 2 }), Value.slice (some { block := g, off := o }) X.nm X.cm, Value.int IntKind.i64 ↑X.nm, Value.int IntKind.i64 (↑X.nm - 1), Value.bool true, Value.bool false, Value.bool false, Value.pointer (some { block := t5 + 1, off := 0 }), Value.int IntKind.i64 X.l.fuel, Value.bool true, Value.bool false, Value.bool false, Value.bool false, Value.pointer (some { block := t5 + 1, off := 1 }), Value.int IntKind.i64 X.l.stack, Value.bool true, Value.bool false, Value.bool false, Value.bool false, Value.pointer (some { block := t5 + 1, off := 2 }), Value.int IntKind.i64 X.l.heap, Value.bool true, Value.bool false, Value.bool false, Value.slice Aa na ca, Value.pointer (some { block := t5, off := 2 }), Value.slice (some { block := g, off := o }) X.nm X.cm, Value.int IntKind.i64 ↑k, Value.pointer (some { block := g, off := o + k * 8 }), Value.pointer (some { block := g, off := o + k * 8 }), Value.slice Ba nb cbb, Value.bool true, Value.bool false, Value.bool false, Value.slice Ab ng cb, Value.pointer (some { block := t5, off := 0 }), Value.slice Mg nmg cmg, Value.slice A4 nmg c4, Value.bool true, Value.bool false, Value.bool false, Value.agg #[Value.slice Mg nmg cmg, Value.slice X.mp X.np X.cp, Value.slice (some { block := g, off := o }) X.nm X.cm, Value.int IntKind.i64 X.mi], Value.slice Ab ng cb, Value.slice Ag ng cg, Value.agg #[Value.int IntKind.i64 X.l.fuel, Value.int IntKind.i64 X.l.stack, Value.int IntKind.i64 X.l.heap], Value.agg #[Value.slice Mg nmg cmg, Value.slice X.mp X.np X.cp, Value.slice (some { block := g, off := o }) X.nm X.cm, Value.int IntKind.i64 X.mi, Value.slice none 0 0, Value.slice none 0 0, Value.pointer none, Value.slice Ag ng cg, Value.int IntKind.i64 X.l.fuel, Value.int IntKind.i64 X.l.stack, Value.int IntKind.i64 X.l.heap, Value.int IntKind.i64 0, Value.int IntKind.i64 0, Value.int IntKind.i64 0, Value.int IntKind.i64 0, Value.bool false, Value.int IntKind.i64 0, Value.int IntKind.u8 0, Value.int IntKind.i64 0, Value.int IntKind.i64 0], Value.pointer (some { block := rb, off := 0 }), Value.tuple #[Value.pointer (some { block := gh, off := 0 }), Value.int IntKind.i64 0], Value.pointer (some { block := rb, off := 0 }), Value.pointer (some { block := t5 + 1, off := 2 }), Value.int IntKind.i64 X.l.heap, Value.tuple #[Value.pointer (some { block := gh, off := 0 }), Value.int IntKind.i64 0], Value.pointer (some { block := gh, off := 0 }), Value.int IntKind.i64 0, Value.pointer (some { block := rb, off := 0 }), Value.pointer (some { block := rb, off := 6 }), Value.tuple #[Value.pointer (some { block := fg2, off := 0 }), Value.int IntKind.i64 0], Value.pointer (some { block := t5, off := 2 }), Value.slice (some { block := g, off := o }) X.nm X.cm, Value.int IntKind.i64 ↑k, Value.pointer (some { block := g, off := o + k * 8 }), Value.pointer (some { block := g, off := o + k * 8 }), Value.slice Ba nb cbb, Value.pointer (some { block := t5, off := 2 }), Value.slice (some { block := g, off := o }) X.nm X.cm, Value.int IntKind.i64 ↑k, Value.pointer (some { block := g, off := o + k * 8 }), Value.pointer (some { block := g, off := o + k * 8 + 1 }), Value.slice Bl nl cl, Value.slice Aa na ca, Value.tuple #[Value.pointer (some { block := fg2, off := 0 }), Value.int IntKind.i64 0], Value.pointer (some { block := fg2, off := 0 }), Value.int IntKind.i64 0, Value.int IntKind.i64 0, Value.bool false, v0, v1, v2, v3, v4, v5, v6, v7, v8, v9, v10, v11, v12, v13, v14, v15, v16, v17, v18, v19, undef], defers := [] } ∧ GJ w10 { X with gh := gh } rb gh (.slice Ag gs.length cg) (s00 gs) (.slice none 0 0) (.slice none 0 0) 0 0 (([] : List Value)) (([] : List Value)) (.pointer (some ⟨fg2, 0, none⟩)) (.int .i64 (k : Int)) L v0 v1 v2 v3 v4 v5 v6 v7 v8 v9 v10 v11 v12 v13 v14 v15 v16 v17 v18 v19 V) ?_ ?_ ?_
  · exact ⟨undef, undef, undef, undef, undef, undef, undef, undef, undef, undef, undef, undef, undef, undef, undef, undef, undef, undef, undef, undef, rfl, GJ.start hI _ _⟩
  · intro L a V i o hJ hL ho hdep K' hK
    obtain ⟨v0, v1, v2, v3, v4, v5, v6, v7, v8, v9, v10, v11, v12, v13, v14, v15, v16, v17, v18, v19, rfl, h⟩ := hJ
    have HK := Lib.hid hK
    clear hK
    have hlen := (Array.getElem?_eq_some_iff.1 ho).1
    match i, ho, hL, hlen with
    | 0, ho, hL, _ =>
      obtain rfl := Option.some.inj ho
      clear ho
      clear hdep
      go_simp
      exact HK.out _ _ ⟨_, _, _, _, _, _, _, _, _, _, _, _, _, _, _, _, _, _, _, _, rfl, h.s0⟩
    | 1, ho, hL, _ =>
      obtain rfl := Option.some.inj ho
      clear ho
      clear hdep
      go_simp
      exact HK.out _ _ ⟨_, _, _, _, _, _, _, _, _, _, _, _, _, _, _, _, _, _, _, _, rfl, h.s1⟩
    | 2, ho, hL, _ =>
      obtain rfl := Option.some.inj ho
      clear ho
      clear hdep
      go_simp
      exact HK.out _ _ ⟨_, _, _, _, _, _, _, _, _, _, _, _, _, _, _, _, _, _, _, _, rfl, h.s2⟩
    | 3, ho, hL, _ =>
      obtain rfl := Option.some.inj ho
      clear ho
      have q2 : L 2 = true := hdep ⟨2, .data⟩ (by simp) rfl
      obtain rfl := h.t2 q2
      clear hdep
      go_simp
      exact HK.out _ _ ⟨_, _, _, _, _, _, _, _, _, _, _, _, _, _, _, _, _, _, _, _, rfl, h.s3⟩
    | 4, ho, hL, _ =>
      obtain rfl := Option.some.inj ho
      clear ho
      have q3 : L 3 = true := hdep ⟨3, .data⟩ (by simp) rfl
      obtain rfl := h.t3 q3
      clear hdep
      go_simp
      exact HK.out _ _ ⟨_, _, _, _, _, _, _, _, _, _, _, _, _, _, _, _, _, _, _, _, rfl, h.s4⟩
    | 5, ho, hL, _ =>
      obtain rfl := Option.some.inj ho
      clear ho
      have q4 : L 4 = true := hdep ⟨4, .data⟩ (by simp) rfl
      obtain rfl := h.t4 q4
      clear hdep
      have c4 := h.c4 hL
      go_simp
      exact HK.out _ _ ⟨_, _, _, _, _, _, _, _, _, _, _, _, _, _, _, _, _, _, _, _, rfl, h.s5⟩
    | 6, ho, hL, _ =>
      obtain rfl := Option.some.inj ho
      clear ho
      clear hdep
      go_simp
      exact HK.out _ _ ⟨_, _, _, _, _, _, _, _, _, _, _, _, _, _, _, _, _, _, _, _, rfl, h.s6⟩
    | 7, ho, hL, _ =>
      obtain rfl := Option.some.inj ho
      clear ho
      have q6 : L 6 = true := hdep ⟨6, .data⟩ (by simp) rfl
      obtain rfl := h.t6 q6
      clear hdep
      have hsz := h.t.size
      go_simp
      exact HK.out _ _ ⟨_, _, _, _, _, _, _, _, _, _, _, _, _, _, _, _, _, _, _, _, rfl, h.s7 hsz _⟩
    | 8, ho, hL, _ =>
      obtain rfl := Option.some.inj ho
      clear ho
      have q5 : L 5 = true := hdep ⟨5, .data⟩ (by simp) rfl
      have q7 : L 7 = true := hdep ⟨7, .data⟩ (by simp) rfl
      obtain rfl := h.t5 q5
      obtain ⟨bb, rfl, hbb, -, -⟩ := h.bF q7 hL
      clear hdep
      refine step_append_own rfl (.tmp 96) (.tmp 98) 54 rfl (rb + 1) 66 ia (.pointer none) 1 8 Try.underlying54 hia hia0 hia1 hia2 rfl (by decide) (.slice none 0 0) 0 (([] : List Value)) (by simp [Act.eval]) (h.rF hL) ⟨bb, 0, none⟩ 1 1 [.pointer (some ⟨fg2, 0, none⟩)] (by simp [Act.eval]) rfl (one_news hbb) (one_cell rfl) (by unfold maxLen; omega) (by omega) h.rbl ?_
      intro v' w' hown hgr hor
      exact HK.out _ _ ⟨_, _, _, _, _, _, _, _, _, _, _, _, _, _, _, _, _, _, _, _, rfl, h.s8 q5 hL hown hgr hor⟩
    | 9, ho, hL, _ =>
      obtain rfl := Option.some.inj ho
      clear ho
      clear hdep
      go_simp
      exact HK.out _ _ ⟨_, _, _, _, _, _, _, _, _, _, _, _, _, _, _, _, _, _, _, _, rfl, h.s9⟩
    | 10, ho, hL, _ =>
      obtain rfl := Option.some.inj ho
      clear ho
      have q9 : L 9 = true := hdep ⟨9, .data⟩ (by simp) rfl
      obtain rfl := h.t9 q9
      clear hdep
      go_simp
      exact HK.out _ _ ⟨_, _, _, _, _, _, _, _, _, _, _, _, _, _, _, _, _, _, _, _, rfl, h.s10⟩
    | 11, ho, hL, _ =>
      obtain rfl := Option.some.inj ho
      clear ho
      have q10 : L 10 = true := hdep ⟨10, .data⟩ (by simp) rfl
      obtain rfl := h.t10 q10
      clear hdep
      go_simp
      exact HK.out _ _ ⟨_, _, _, _, _, _, _, _, _, _, _, _, _, _, _, _, _, _, _, _, rfl, h.s11⟩
    | 12, ho, hL, _ =>
      obtain rfl := Option.some.inj ho
      clear ho
      have q11 : L 11 = true := hdep ⟨11, .data⟩ (by simp) rfl
      obtain rfl := h.t11 q11
      clear hdep
      have c5 := h.c5 hL
      go_simp
      exact HK.out _ _ ⟨_, _, _, _, _, _, _, _, _, _, _, _, _, _, _, _, _, _, _, _, rfl, h.s12⟩
    | 13, ho, hL, _ =>
      obtain rfl := Option.some.inj ho
      clear ho
      clear hdep
      go_simp
      exact HK.out _ _ ⟨_, _, _, _, _, _, _, _, _, _, _, _, _, _, _, _, _, _, _, _, rfl, h.s13⟩
    | 14, ho, hL, _ =>
      obtain rfl := Option.some.inj ho
      clear ho
      have q13 : L 13 = true := hdep ⟨13, .data⟩ (by simp) rfl
      obtain rfl := h.t13 q13
      clear hdep
      have hsz := h.t.size
      go_simp
      exact HK.out _ _ ⟨_, _, _, _, _, _, _, _, _, _, _, _, _, _, _, _, _, _, _, _, rfl, h.s14 hsz _⟩
    | 15, ho, hL, _ =>
      obtain rfl := Option.some.inj ho
      clear ho
      have q12 : L 12 = true := hdep ⟨12, .data⟩ (by simp) rfl
      have q14 : L 14 = true := hdep ⟨14, .data⟩ (by simp) rfl
      obtain rfl := h.t12 q12
      obtain ⟨bb, rfl, hbb, -, -⟩ := h.bM q14 hL
      clear hdep
      refine step_append_own rfl (.tmp 103) (.tmp 105) 55 rfl (rb + 1) 3 ib (.int .i64 0) 1 8 Try.underlying55 hib hib0 hib1 hib2 rfl (by decide) (.slice none 0 0) 0 (([] : List Value)) (by simp [Act.eval]) (h.rM hL) ⟨bb, 0, none⟩ 1 1 [.int .i64 (k : Int)] (by simp [Act.eval]) rfl (one_news hbb) (one_cell rfl) (by unfold maxLen; omega) (by omega) h.rbl ?_
      intro v' w' hown hgr hor
      exact HK.out _ _ ⟨_, _, _, _, _, _, _, _, _, _, _, _, _, _, _, _, _, _, _, _, rfl, h.s15 q12 hL hown hgr hor⟩
    | 16, ho, hL, _ =>
      obtain rfl := Option.some.inj ho
      clear ho
      have q0 : L 0 = true := hdep ⟨0, .data⟩ (by simp) rfl
      obtain rfl := h.t0 q0
      clear hdep
      go_simp
      exact HK.out _ _ ⟨_, _, _, _, _, _, _, _, _, _, _, _, _, _, _, _, _, _, _, _, rfl, h.s16⟩
    | 17, ho, hL, _ =>
      obtain rfl := Option.some.inj ho
      clear ho
      have q16 : L 16 = true := hdep ⟨16, .data⟩ (by simp) rfl
      obtain rfl := h.t16 q16
      clear hdep
      go_simp
      exact HK.out _ _ ⟨_, _, _, _, _, _, _, _, _, _, _, _, _, _, _, _, _, _, _, _, rfl, h.s17⟩
    | 18, ho, hL, _ =>
      obtain rfl := Option.some.inj ho
      clear ho
      have q17 : L 17 = true := hdep ⟨17, .data⟩ (by simp) rfl
      have q8 : L 8 = true := hdep ⟨8, .data⟩ (by simp) rfl
      obtain rfl := h.t17 q17
      clear hdep
      obtain ⟨g9, cap9, rfl⟩ := row_some (h.rF' q8).1
      obtain ⟨e4, e5, eb, -⟩ := h.b
      have x4 := eb.c 4 _ rfl
      have x4f := eb.f 4
      have xl := eb.l
      have hs := h.s18 hrb3 q8
      have HS := Lib.hid hs
      clear hs eb h
      go_simp
      exact HK.out _ _ ⟨_, _, _, _, _, _, _, _, _, _, _, _, _, _, _, _, _, _, _, _, rfl, HS.out⟩
    | 19, ho, hL, _ =>
      obtain rfl := Option.some.inj ho
      clear ho
      have q1 : L 1 = true := hdep ⟨1, .data⟩ (by simp) rfl
      obtain rfl := h.t1 q1
      clear hdep
      go_simp
      exact HK.out _ _ ⟨_, _, _, _, _, _, _, _, _, _, _, _, _, _, _, _, _, _, _, _, rfl, h.s19⟩
    | 20, ho, hL, _ =>
      obtain rfl := Option.some.inj ho
      clear ho
      have q19 : L 19 = true := hdep ⟨19, .data⟩ (by simp) rfl
      obtain rfl := h.t19 q19
      clear hdep
      go_simp
      exact HK.out _ _ ⟨_, _, _, _, _, _, _, _, _, _, _, _, _, _, _, _, _, _, _, _, rfl, h.s20⟩
    | 21, ho, hL, _ =>
      obtain rfl := Option.some.inj ho
      clear ho
      have q20 : L 20 = true := hdep ⟨20, .data⟩ (by simp) rfl
      have q15 : L 15 = true := hdep ⟨15, .data⟩ (by simp) rfl
      obtain rfl := h.t20 q20
      clear hdep
      obtain ⟨g9, cap9, rfl⟩ := row_some (h.rM' q15).1
      obtain ⟨e4, e5, eb, -⟩ := h.b
      have x4 := eb.c 5 _ rfl
      have x4f := eb.f 5
      have xl := eb.l
      have hs := h.s21 hrb3 q15
      have HS := Lib.hid hs
      clear hs eb h
      go_simp
      exact HK.out _ _ ⟨_, _, _, _, _, _, _, _, _, _, _, _, _, _, _, _, _, _, _, _, rfl, HS.out⟩
    | _ + 22, ho, hL, hlen => exact absurd hlen (by simp)
  · intro L a V hJ hall
    obtain ⟨v0, v1, v2, v3, v4, v5, v6, v7, v8, v9, v10, v11, v12, v13, v14, v15, v16, v17, v18, v19, rfl, h⟩ := hJ
    have FIN : Hid (RunAt W V { X with gh := gh } rb [fg2] 0 (begin0 X.m k vs gs) (fun b => b < W.heap.size)) := Lib.hid (by
      have q : ∀ i, i < 22 → L i = true := fun i hi => hall i hi
      obtain ⟨e4, e5, eb, -, r4, -, r5⟩ := h.b
      rw [r4 (q 18 (by omega)), r5 (q 21 (by omega))] at eb
      have hrF := h.rF' (q 8 (by omega))
      have hrM := h.rM' (q 15 (by omega))
      have hne := h.ne
      rw [if_pos (q 8 (by omega)), if_pos (q 15 (by omega))] at hne
      have hG := hI.grow (i := k) (K0 := fun b => b < W.heap.size) HFP.out (fun b h1 h2 => hoB b (by have := H9.out.1.size; omega)) H9.out.2.2.2.2.size (Nat.le_refl _) (fun b hb => ⟨⟨by have := H9.out.2.2.2.2.size; have := HFO.out.bw.size; simp at this; omega, ho0 b hb⟩, fun hp => by have := H9.out.2.2.2.2.size; omega⟩) (Nat.zero_le _) hkx h.t eb hrF.1 hrF.2 hrM.1 hrM.2 hne
      have e : ({ s00 gs with frs := (s00 gs).frs ++ [newFr x.args x.locs vs], ms := (s00 gs).ms ++ [k] } : Mc) = begin0 X.m k vs gs := by unfold begin0; rw [HXX.out]; rfl
      rw [e] at hG
      exact hG.1)
    have hrbW := H9.out.2.2.2.1
    have HRB := Lib.hid hrbW
    clear h hall hrbW
    dsimp only
    go_wp2_with fail
    go_ret2
    exact ⟨rb, fg2, gh, rfl, by have hf := FIN.out; rw [HMM.out, H0.out.1.mg] at hf; exact hf, HRB.out⟩
end
#print axioms begin_yes
end Go.Proofs.Ytkhgpeejmbfmjaa
/- A call: what it comes to; its loop, plainly. -/
namespace Go.Proofs.Ytkhgpeejmbfmjaa
open Go.RowKit
set_option linter.unusedSimpArgs false
set_option linter.unusedVariables false
set_option maxRecDepth 100000
section
variable {w0 W : World} {X : Sx} {rb : Nat} {fgs : List Nat} {c : Nat} {s : Mc} {K : Nat → Prop} {fg : Nat}

theorem begin_no {Mg : Option Addr} {nmg cmg : Nat} {mgs : List V} {Aa : Option Addr} {na ca : Nat} {vs : List V} {Ab : Option Addr} {ng cb : Nat} {gs : List V} (h : Given W X Mg nmg cmg mgs Aa na vs Ab ng gs) (i : Int) (hb : beginB X.m i vs gs X.l = false) : Calls Try.prog 13 #[modV X, .int .i64 i, .slice Aa na ca, .slice Ab ng cb, limV X.l] W fun e W' => e = .returned (.tuple #[.pointer none, .bool false]) ∧ Below W.heap.size W W' := by
  unfold beginB at hb
  rw [h.md.ml] at hb
  cases h1 : inB i ((X.nm : Int) - 1) with
  | false => exact begin_n1 h i h1
  | true =>
    cases hl : limB X.l with
    | false =>
      rcases lim_cases hl with h2 | ⟨h2, h3⟩ | ⟨h2, h3, h4⟩
      · exact begin_n2 h i h1 h2
      · exact begin_n3 h i h1 h2 h3
      · exact begin_n4 h i h1 h2 h3 h4
    | true =>
      obtain ⟨h2, h3, h4⟩ := lim_all hl
      cases h5 : outB vs (X.m.at i.toNat).args with
      | false => exact begin_n5 h i h1 h2 h3 h4 h5
      | true =>
        cases h6 : outB gs X.m.gk with
        | false => exact begin_n6 h i h1 h2 h3 h4 h5 h6
        | true =>
          cases h7 : newB (X.m.at i.toNat).args (X.m.at i.toNat).locs vs with
          | false => exact begin_n7 h i h1 h2 h3 h4 h5 h6 h7
          | true =>
            exfalso
            simp only [h1, hl, h5, h6, h7, Bool.and_self, Bool.true_eq_false] at hb
theorem begin_ok {Mg : Option Addr} {nmg cmg : Nat} {mgs : List V} {Aa : Option Addr} {na ca : Nat} {vs : List V} {Ab : Option Addr} {ng cb : Nat} {gs : List V} (h : Given W X Mg nmg cmg mgs Aa na vs Ab ng gs) (i : Int) (hb : beginB X.m i vs gs X.l = true) : Calls Try.prog 13 #[modV X, .int .i64 i, .slice Aa na ca, .slice Ab ng cb, limV X.l] W fun e W' => ∃ rb fg gh, e = .returned (.tuple #[.pointer (some ⟨rb, 0, none⟩), .bool true]) ∧ RunAt W W' { X with gh := gh } rb [fg] 0 (begin0 X.m i.toNat vs gs) (fun b => b < W.heap.size) ∧ W.heap.size ≤ rb := by
  unfold beginB at hb
  rw [h.md.ml] at hb
  simp only [Bool.and_eq_true] at hb
  obtain ⟨h1, hl, h5, h6, h7⟩ := hb
  obtain ⟨h2, h3, h4⟩ := lim_all hl
  exact begin_yes h i h1 h2 h3 h4 h5 h6 h7
/-- A step. -/
theorem next_at (h : RunAt w0 W X rb fgs c s K) (hf : Topf fgs fg) (hc : c < 25000) (hfu : 0 ≤ s.fu ∧ s.fu ≤ 1048576) : Calls Try.prog 14 #[.pointer (some ⟨rb, 0, none⟩)] W fun e W' => e = .returned (.tuple #[]) ∧ Left w0 W X rb c (s.next X.m X.l) K W' := by
  by_cases h1 : X.l.stack < s.size
  · exact next_stack h hf hc h1
  · by_cases h2 : s.fu = X.l.fuel
    · exact next_fuel h hf hc h1 h2
    · exact next_go h hf hc h1 h2 hfu
/-- What a call comes to: the globals after it, the outcome, what it took, the error. -/
def runR (m : Md) (l : Lm) (i : Int) (vs gs : List V) : List V × (Int × V) × (Int × Int × Int) × Int :=
  if beginB m i vs gs l then
    (let t := (begin0 m i.toNat vs gs).run m l (l.fuel.toNat + 1)
    if t.e ≠ 0 then ([], (0, zv), (0, 0, 0), t.e) else (if t.out.1 ≠ 0 then gs else t.gl, t.out, (t.fu, t.st, t.hp.flatten.length), 0))
  else ([], (0, zv), (0, 0, 0), 2)
theorem next_fu (m : Md) (l : Lm) (s : Mc) : s.fu ≤ (s.next m l).fu := by
  unfold Mc.next
  dsimp only
  split
  · exact Int.le_refl _
  · split
    · exact Int.le_refl _
    · split
      · have k := fun x (y : Int × Int) z => ext_do (r := l.heap.toNat) m l (Nat.le_refl _) (Mc.upd { s with fu := s.fu + 1, st := max s.st s.size } x) y.1 y.2 z
        split
        · have := (k (goF (Mc.top { s with fu := s.fu + 1, st := max s.st s.size }) (wrap64 (s.top.place + 1))) ((m.at (s.ms.getLast?.getD 0)).code[s.top.place.toNat]?.getD (0, 0)) s.top.place).fu
          show s.fu ≤ (Mc.do_ _ _ _ _ _ _).2.fu
          rw [this]
          show s.fu ≤ s.fu + 1
          omega
        · have := (k (goF (Mc.top { s with fu := s.fu + 1, st := max s.st s.size }) (wrap64 (s.top.place + 1))) ((m.at (s.ms.getLast?.getD 0)).code[s.top.place.toNat]?.getD (0, 0)) s.top.place).fu
          rw [this]
          show s.fu ≤ s.fu + 1
          omega
      · show s.fu ≤ s.fu + 1
        omega
/-- Where a run stands at a round's head, of which at most g are to come. -/
def LoopJ (W0 : World) (X : Sx) (rb : Nat) (N : Nat) (t : Mc) (g : Nat) (wr : World) : Prop :=
  ∃ fgs c s, RunAt W0 wr X rb fgs c s (fun b => b < W0.heap.size) ∧ Lv fgs s ∧ c + g ≤ N ∧ 0 ≤ s.fu ∧ s.run X.m X.l g = t ∧ (s.over = false → s.e = 0 → s.fu ≤ X.l.fuel ∧ X.l.fuel - s.fu < g)
theorem run_live {m : Md} {l : Lm} {s : Mc} {k : Nat} (h1 : s.over = false) (h2 : s.e = 0) : s.run m l (k + 1) = (s.next m l).run m l k := by
  show (if s.over = false ∧ s.e = 0 then Mc.run m l k (s.next m l) else s) = _
  rw [if_pos ⟨h1, h2⟩]
theorem run_dead {m : Md} {l : Lm} {s : Mc} (h : ¬ (s.over = false ∧ s.e = 0)) : ∀ k, s.run m l k = s
  | 0 => rfl
  | k + 1 => by
    show (if s.over = false ∧ s.e = 0 then Mc.run m l k (s.next m l) else s) = _
    rw [if_neg h]
theorem LoopJ.start {W0 wr : World} {X : Sx} {rb fg : Nat} {s : Mc} (h : RunAt W0 wr X rb [fg] 0 s (fun b => b < W0.heap.size)) (hfu : s.fu = 0) (hl : 0 ≤ X.l.fuel) : LoopJ W0 X rb (X.l.fuel.toNat + 1) (s.run X.m X.l (X.l.fuel.toNat + 1)) (X.l.fuel.toNat + 1) wr :=
  ⟨[fg], 0, s, h, .inr ⟨fg, [], rfl⟩, by omega, by omega, rfl, fun _ _ => by omega⟩
/-- A round. -/
theorem LoopJ.step {W0 wr w2 : World} {X : Sx} {rb N c g : Nat} {fgs : List Nat} {s t : Mc} (hc : c + g ≤ N) (hfu : 0 ≤ s.fu) (hr : s.run X.m X.l g = t) (h1 : s.over = false) (h2 : s.e = 0) (hl : s.fu ≤ X.l.fuel ∧ X.l.fuel - s.fu < g) (hn : Left W0 wr X rb c (s.next X.m X.l) (fun b => b < W0.heap.size) w2) :
    ∃ g', g = g' + 1 ∧ LoopJ W0 X rb N t g' w2 := by
  obtain ⟨g', rfl⟩ : ∃ g', g = g' + 1 := ⟨g - 1, by omega⟩
  rw [run_live h1 h2] at hr
  obtain ⟨fgs', hR, hlv⟩ := hn
  have hff : s.fu ≤ (s.next X.m X.l).fu ∧ ((s.next X.m X.l).e = 0 → s.fu ≠ X.l.fuel ∧ (s.next X.m X.l).fu = s.fu + 1) := by
    refine ⟨?_, fun e => ?_⟩
    · exact next_fu X.m X.l s
    · obtain ⟨-, -, b3, b4, -⟩ := next_ok e
      exact ⟨b3, b4⟩
  refine ⟨g', rfl, fgs', c + 1, s.next X.m X.l, hR.1, hlv, by omega, by omega, hr, fun _ e => ?_⟩
  obtain ⟨h3, h4⟩ := hff.2 e
  omega
end
#print axioms run_dead
#print axioms LoopJ
#print axioms LoopJ
end Go.Proofs.Ytkhgpeejmbfmjaa
/- The plain laws of a call. -/
namespace Go.Proofs.Ytkhgpeejmbfmjaa
open Go.RowKit
set_option linter.unusedSimpArgs false
set_option linter.unusedVariables false
set_option maxRecDepth 100000
section
variable {w0 W : World} {X : Sx} {rb : Nat} {fgs : List Nat} {c : Nat} {s : Mc} {K : Nat → Prop} {fg : Nat}

theorem run_more {m : Md} {l : Lm} : ∀ (k : Nat) {s : Mc}, (s.run m l k).over = true ∨ (s.run m l k).e ≠ 0 → ∀ k', k ≤ k' → s.run m l k' = s.run m l k
  | 0, s, h, k', hk => by
    have h1 : s.run m l 0 = s := rfl
    rw [h1] at h ⊢
    refine run_dead (fun e => ?_) k'
    rcases h with h | h
    · rw [h] at e; exact absurd e.1 (by decide)
    · exact h e.2
  | k + 1, s, h, k', hk => by
    by_cases hc : s.over = false ∧ s.e = 0
    · obtain ⟨j, rfl⟩ : ∃ j, k' = j + 1 := ⟨k' - 1, by omega⟩
      have e1 : s.run m l (k + 1) = (s.next m l).run m l k := run_live hc.1 hc.2
      have e2 : s.run m l (j + 1) = (s.next m l).run m l j := run_live hc.1 hc.2
      rw [e1] at h ⊢
      rw [e2]
      exact run_more k h j (by omega)
    · rw [run_dead hc k', run_dead hc (k + 1)]
theorem lim_of {l : Lm} (h : limB l = true) : (0 ≤ l.fuel ∧ l.fuel ≤ 1048576) ∧ (0 ≤ l.stack ∧ l.stack ≤ 256) ∧ (0 ≤ l.heap ∧ l.heap ≤ 1024) := by
  unfold limB inB at h
  simp only [Bool.and_eq_true, decide_eq_true_eq] at h
  exact ⟨h.1, h.2.1, h.2.2⟩
theorem beginB_lim {m : Md} {i : Int} {vs gs : List V} {l : Lm} (h : beginB m i vs gs l = true) : limB l = true := by
  unfold beginB at h
  simp only [Bool.and_eq_true] at h
  exact h.2.1
theorem beginB_any {m : Md} {i : Int} {vs gs : List V} {l l' : Lm} (h : beginB m i vs gs l = true) (h' : limB l' = true) : beginB m i vs gs l' = true := by
  unfold beginB at h ⊢
  simp only [Bool.and_eq_true] at h ⊢
  exact ⟨h.1, h', h.2.2⟩
/-- The last state of a run. -/
def lastR (m : Md) (l : Lm) (i : Int) (vs gs : List V) : Mc := (begin0 m i.toNat vs gs).run m l (l.fuel.toNat + 1)
theorem lastR_ends {m : Md} {l : Lm} (i : Int) (vs gs : List V) (h : 0 ≤ l.fuel) : (lastR m l i vs gs).over = true ∨ (lastR m l i vs gs).e ≠ 0 :=
  run_ends (l.fuel.toNat + 1) (s := begin0 m i.toNat vs gs) h (by show l.fuel - 0 < _; omega)
theorem lastR_more {m : Md} {l : Lm} (i : Int) (vs gs : List V) (h : 0 ≤ l.fuel) {N : Nat} (hN : l.fuel.toNat + 1 ≤ N) : (begin0 m i.toNat vs gs).run m l N = lastR m l i vs gs :=
  run_more _ (lastR_ends i vs gs h) N hN
theorem runR_at (m : Md) (l : Lm) (i : Int) (vs gs : List V) : runR m l i vs gs = if beginB m i vs gs l then (if (lastR m l i vs gs).e ≠ 0 then ([], (0, zv), (0, 0, 0), (lastR m l i vs gs).e) else (if (lastR m l i vs gs).out.1 ≠ 0 then gs else (lastR m l i vs gs).gl, (lastR m l i vs gs).out, ((lastR m l i vs gs).fu, (lastR m l i vs gs).st, ((lastR m l i vs gs).hp.flatten.length : Int)), 0)) else ([], (0, zv), (0, 0, 0), 2) := rfl
/-- A call that comes to an error tells nothing else. -/
theorem runR_err {m : Md} {l : Lm} {i : Int} {vs gs : List V} (h : (runR m l i vs gs).2.2.2 ≠ 0) : (runR m l i vs gs).1 = [] ∧ (runR m l i vs gs).2.1 = (0, zv) ∧ (runR m l i vs gs).2.2.1 = (0, 0, 0) := by
  rw [runR_at] at h ⊢
  split
  · rename_i hb
    rw [if_pos hb] at h
    split
    · exact ⟨rfl, rfl, rfl⟩
    · rename_i he
      rw [if_neg he] at h
      exact absurd rfl h
  · exact ⟨rfl, rfl, rfl⟩
/-- What a call leaves that comes to something. -/
structure RunOk (m : Md) (l : Lm) (i : Int) (vs gs : List V) (t : Mc) : Prop where
  at_ : lastR m l i vs gs = t
  b : beginB m i vs gs l = true
  e : t.e = 0
  over : t.over = true
  r : runR m l i vs gs = (if t.out.1 ≠ 0 then gs else t.gl, t.out, (t.fu, t.st, (t.hp.flatten.length : Int)), 0)
  f1 : 1 ≤ t.fu
  f2 : t.fu ≤ l.fuel
  s2 : t.st ≤ l.stack
  u2 : (t.hp.flatten.length : Int) ≤ l.heap
  gk : t.gl.map (·.1) = gs.map (·.1)
  oi : (t.out.1 ≠ 0 ∧ t.out.2 = zv) ∨ (t.out.1 = 0 ∧ (t.out.2.1 = 1 ∨ t.out.2.1 = 2))
theorem runR_ok {m : Md} {l : Lm} {i : Int} {vs gs : List V} (h : (runR m l i vs gs).2.2.2 = 0) : ∃ t, RunOk m l i vs gs t := by
  obtain ⟨t, ht⟩ : ∃ t, lastR m l i vs gs = t := ⟨_, rfl⟩
  have hr := runR_at m l i vs gs
  rw [ht] at hr
  rw [hr] at h
  rcases Bool.eq_false_or_eq_true (beginB m i vs gs l) with hb | hb
  · rw [if_pos hb] at h hr
    by_cases he : t.e = 0
    · rw [if_neg (fun z => z he)] at hr
      have hl := lim_of (beginB_lim hb)
      have ho : t.over = true := by
        rcases lastR_ends (m := m) i vs gs hl.1.1 with h1 | h1
        · rw [ht] at h1; exact h1
        · rw [ht] at h1; exact absurd he h1
      have e1 : lastR m l i vs gs = ((begin0 m i.toNat vs gs).next m l).run m l l.fuel.toNat := run_live rfl rfl
      have k1 := run_ok (m := m) (l := l) l.fuel.toNat (s := (begin0 m i.toNat vs gs).next m l) (by rw [← e1, ht]; exact he)
      rw [← e1, ht] at k1
      obtain ⟨-, -, -, b4, -⟩ := next_ok k1.2.2.2.2
      have k2 := run_ok (m := m) (l := l) (l.fuel.toNat + 1) (s := begin0 m i.toNat vs gs) (by rw [show (begin0 m i.toNat vs gs).run m l (l.fuel.toNat + 1) = t from ht]; exact he)
      rw [show (begin0 m i.toNat vs gs).run m l (l.fuel.toNat + 1) = t from ht] at k2
      have k3 := run_within (m := m) (l := l) (l.fuel.toNat + 1) (s := begin0 m i.toNat vs gs) (by rw [show (begin0 m i.toNat vs gs).run m l (l.fuel.toNat + 1) = t from ht]; exact he) hl.1.1 hl.2.1.1 (Nat.zero_le _)
      rw [show (begin0 m i.toNat vs gs).run m l (l.fuel.toNat + 1) = t from ht] at k3
      have k4 := oi_run (m := m) (l := l) (l.fuel.toNat + 1) (s := begin0 m i.toNat vs gs) rfl
      rw [show (begin0 m i.toNat vs gs).run m l (l.fuel.toNat + 1) = t from ht] at k4
      have b0 : (begin0 m i.toNat vs gs).fu = 0 := rfl
      have k5 := k1.1
      refine ⟨t, ht, hb, he, ho, hr, by rw [b0] at b4; omega, k3.1, k3.2.1, by have := k3.2.2; have := hl.2.2.1; omega, k2.2.2.2.1, ?_⟩
      rcases k4 with k4 | k4 | k4
      · rw [ho] at k4; cases k4
      · exact .inl k4
      · exact .inr k4
    · rw [if_pos he] at h
      exact absurd h he
  · rw [if_neg (by rw [hb]; decide)] at h
    exact absurd h (by decide)
/-- With other limits that are not less than what it took. -/
theorem runR_same {m : Md} {l l' : Lm} {i : Int} {vs gs : List V} {t : Mc} (h : RunOk m l i vs gs t) (hl : limB l' = true) (h1 : t.fu ≤ l'.fuel) (h2 : t.st ≤ l'.stack) (h3 : (t.hp.flatten.length : Int) ≤ l'.heap) : runR m l' i vs gs = runR m l i vs gs := by
  have hl0 := lim_of (beginB_lim h.b)
  have hl1 := lim_of hl
  have e0 := lastR_more (m := m) i vs gs hl0.1.1 (N := l.fuel.toNat + 1 + (l'.fuel.toNat + 1)) (by omega)
  have e1 := lastR_more (m := m) i vs gs hl1.1.1 (N := l.fuel.toNat + 1 + (l'.fuel.toNat + 1)) (by omega)
  have h0 := h.at_
  have k := run_same (m := m) (l := l) (l' := l') (l.fuel.toNat + 1 + (l'.fuel.toNat + 1)) (s := begin0 m i.toNat vs gs) (by rw [e0, h0]; exact h.e) (by rw [e0, h0]; exact h1) (by rw [e0, h0]; exact h2) (by rw [e0, h0]; exact h3)
  rw [e0, e1] at k
  rw [runR_at m l', k, runR_at m l, h.b, beginB_any h.b hl]
/-- With less fuel. -/
theorem runR_less {m : Md} {l l' : Lm} {i : Int} {vs gs : List V} {t : Mc} (h : RunOk m l i vs gs t) (hl : limB l' = true) (h1 : l'.fuel < t.fu) (h2 : t.st ≤ l'.stack) (h3 : (t.hp.flatten.length : Int) ≤ l'.heap) : (runR m l' i vs gs).2.2.2 = 170 := by
  have hl0 := lim_of (beginB_lim h.b)
  have hl1 := lim_of hl
  have e0 := lastR_more (m := m) i vs gs hl0.1.1 (N := l.fuel.toNat + 1 + (l'.fuel.toNat + 1)) (by omega)
  have e1 := lastR_more (m := m) i vs gs hl1.1.1 (N := l.fuel.toNat + 1 + (l'.fuel.toNat + 1)) (by omega)
  have h0 := h.at_
  have k := run_less (m := m) (l := l) (l' := l') (l.fuel.toNat + 1 + (l'.fuel.toNat + 1)) (s := begin0 m i.toNat vs gs) (by rw [e0, h0]; exact h.e) hl1.1.1 (by rw [e0, h0]; exact h1) (by rw [e0, h0]; exact h2) (by rw [e0, h0]; exact h3)
  rw [e1] at k
  rw [runR_at m l', if_pos (beginB_any h.b hl), if_pos (by rw [k]; decide)]
  exact k
end
#print axioms runR_ok
#print axioms runR_same
#print axioms runR_less
end Go.Proofs.Ytkhgpeejmbfmjaa
/- A call: its walk. -/
namespace Go.Proofs.Ytkhgpeejmbfmjaa
open Go.RowKit
set_option linter.unusedSimpArgs false
set_option linter.unusedVariables false
set_option maxRecDepth 100000
section
variable {w0 W : World} {X : Sx} {rb : Nat} {fgs : List Nat} {c : Nat} {s : Mc} {K : Nat → Prop} {fg : Nat}

/-- What a call leaves. -/
def RunEnd (W : World) (r : List V × (Int × V) × (Int × Int × Int) × Int) (e : Ending) (W' : World) : Prop :=
  ∃ A c, e = .returned (.tuple #[.slice A r.1.length c, .agg #[.int .i64 r.2.1.1, .int .u8 r.2.1.2.1, .int .i64 r.2.1.2.2.1, .int .i64 r.2.1.2.2.2], .agg #[.int .i64 r.2.2.1.1, .int .i64 r.2.2.1.2.1, .int .i64 r.2.2.1.2.2], .int .i64 r.2.2.2]) ∧ Below W.heap.size W W' ∧
    (r.1 = [] ∨ ∃ g, A = some ⟨g, 0, none⟩ ∧ W.heap.size ≤ g ∧ Blk W' g (vcs r.1)) ∧ ∀ v ∈ r.1, VOk v
theorem Given.below {Mg : Option Addr} {nmg cmg : Nat} {mgs : List V} {Aa : Option Addr} {na : Nat} {vs : List V} {Ab : Option Addr} {ng : Nat} {gs : List V}  (h : Given W X Mg nmg cmg mgs Aa na vs Ab ng gs) {W' : World} (hb : Below W.heap.size W W') : Given W' X Mg nmg cmg mgs Aa na vs Ab ng gs :=
  { h with md := h.md.below hb, vm := h.vm.below hb, va := h.va.below hb, vg := h.vg.below hb }
theorem RunAt.glAt (h : RunAt w0 W X rb fgs c s K) : ∃ Ag cg, W.cell? ⟨rb, 7, none⟩ = some (.slice Ag s.gl.length cg) ∧ (s.gl = [] ∨ ∃ gb, Ag = some ⟨gb, 0, none⟩ ∧ w0.heap.size ≤ gb ∧ gb ≠ rb ∧ Blk W gb (vcs s.gl)) := by
  obtain ⟨own, Af, cf, Am, cm, gh, gw, Ag, cg, h⟩ := h
  refine ⟨Ag, cg, h.blk.c 7 _ rfl, ?_⟩
  rcases h.gl with e | ⟨gb, g1, g2, g3, g4, -⟩
  · exact .inl e
  · exact .inr ⟨gb, g1, h.new g2 (by omega), g4, g3⟩
theorem RunAt.rb0 (h : RunAt w0 W X rb fgs c s K) : w0.heap.size ≤ rb := by
  obtain ⟨own, Af, cf, Am, cm, gh, gw, Ag, cg, h⟩ := h
  exact h.new h.mine.rb (by omega)
/-- The results, stored. -/
def W7 (V : World) (t : Nat) (o0 o1 o2 o3 c0 c1 c2 : Int) : World := (((((((V.setCell ⟨t + 1 + 1, 0, none⟩ (.int .i64 o0)).setCell ⟨t + 1 + 1, 1, none⟩ (.int .u8 o1)).setCell ⟨t + 1 + 1, 2, none⟩ (.int .i64 o2)).setCell ⟨t + 1 + 1, 3, none⟩ (.int .i64 o3)).setCell ⟨t + 1 + 1 + 1, 0, none⟩ (.int .i64 c0)).setCell ⟨t + 1 + 1 + 1, 1, none⟩ (.int .i64 c1)).setCell ⟨t + 1 + 1 + 1, 2, none⟩ (.int .i64 c2))
theorem stored7 {V w : World} {t n : Nat} {a0 a1 a2 a3 b0 b1 b2 : Value} (B11 : Blk V (t + 1 + 1) [a0, a1, a2, a3]) (B12 : Blk V (t + 1 + 1 + 1) [b0, b1, b2]) (hb : Below n w V) (hn : n ≤ t) (o0 o1 o2 o3 c0 c1 c2 : Int) :
    Blk (W7 V t o0 o1 o2 o3 c0 c1 c2) (t + 1 + 1) [.int .i64 o0, .int .u8 o1, .int .i64 o2, .int .i64 o3] ∧ Blk (W7 V t o0 o1 o2 o3 c0 c1 c2) (t + 1 + 1 + 1) [.int .i64 c0, .int .i64 c1, .int .i64 c2] ∧ Below n w (W7 V t o0 o1 o2 o3 c0 c1 c2) ∧ Touch (fun b => b = t + 1 + 1 ∨ b = t + 1 + 1 + 1) V (W7 V t o0 o1 o2 o3 c0 c1 c2) := by
  unfold W7
  refine ⟨?_, ?_, ?_, ?_⟩
  · exact (((((((B11.set (j := 0) rfl _).set (j := 1) rfl _).set (j := 2) rfl _).set (j := 3) rfl _).other (by omega) _ _).other (by omega) _ _).other (by omega) _ _)
  · exact (((((((B12.other (by omega) _ _).other (by omega) _ _).other (by omega) _ _).other (by omega) _ _).set (j := 0) rfl _).set (j := 1) rfl _).set (j := 2) rfl _)
  · exact Blk.below_set (Blk.below_set (Blk.below_set (Blk.below_set (Blk.below_set (Blk.below_set (Blk.below_set hb (by omega) _ _) (by omega) _ _) (by omega) _ _) (by omega) _ _) (by omega) _ _) (by omega) _ _) (by omega) _ _
  · exact (((((((Touch.refl _ V).setCell _ _ (fun _ => .inl rfl)).setCell _ _ (fun _ => .inl rfl)).setCell _ _ (fun _ => .inl rfl)).setCell _ _ (fun _ => .inl rfl)).setCell _ _ (fun _ => .inr rfl)).setCell _ _ (fun _ => .inr rfl)).setCell _ _ (fun _ => .inr rfl)
/-- The four blocks that a call makes first. -/
theorem four (W : World) (X : Sx) : ∃ (Wb : World) (t5 : Nat), (((W.alloc (.cells #[X.mg, .slice X.mp X.np X.cp, .slice X.mm X.nm X.cm, .int .i64 X.mi] 25)).alloc (.cells #[.int .i64 X.l.fuel, .int .i64 X.l.stack, .int .i64 X.l.heap] 33)).alloc (.cells #[.int .i64 0, .int .u8 0, .int .i64 0, .int .i64 0] 31)).alloc (.cells #[.int .i64 0, .int .i64 0, .int .i64 0] 33) = Wb ∧ W.heap.size = t5 ∧ Below W.heap.size W Wb ∧ Blk Wb t5 [X.mg, .slice X.mp X.np X.cp, .slice X.mm X.nm X.cm, .int .i64 X.mi] ∧ Blk Wb (t5 + 1) [.int .i64 X.l.fuel, .int .i64 X.l.stack, .int .i64 X.l.heap] ∧ Blk Wb (t5 + 1 + 1) [.int .i64 0, .int .u8 0, .int .i64 0, .int .i64 0] ∧ Blk Wb (t5 + 1 + 1 + 1) [.int .i64 0, .int .i64 0, .int .i64 0] := by
  refine ⟨_, _, rfl, rfl, ((((Below.refl _ _).alloc (Nat.le_refl _) _).alloc (by simp only [World.size_alloc]; omega) _).alloc (by simp only [World.size_alloc]; omega) _).alloc (by simp only [World.size_alloc]; omega) _, (((Blk.new W _ 25).alloc _).alloc _).alloc _, ?_, ?_, ?_⟩
  · have := ((Blk.new (W.alloc (.cells #[X.mg, .slice X.mp X.np X.cp, .slice X.mm X.nm X.cm, .int .i64 X.mi] 25)) #[.int .i64 X.l.fuel, .int .i64 X.l.stack, .int .i64 X.l.heap] 33).alloc (.cells #[.int .i64 0, .int .u8 0, .int .i64 0, .int .i64 0] 31)).alloc (.cells #[.int .i64 0, .int .i64 0, .int .i64 0] 33)
    simpa using this
  · have := (Blk.new ((W.alloc (.cells #[X.mg, .slice X.mp X.np X.cp, .slice X.mm X.nm X.cm, .int .i64 X.mi] 25)).alloc (.cells #[.int .i64 X.l.fuel, .int .i64 X.l.stack, .int .i64 X.l.heap] 33)) #[.int .i64 0, .int .u8 0, .int .i64 0, .int .i64 0] 31).alloc (.cells #[.int .i64 0, .int .i64 0, .int .i64 0] 33)
    simpa [Nat.add_assoc] using this
  · have := Blk.new (((W.alloc (.cells #[X.mg, .slice X.mp X.np X.cp, .slice X.mm X.nm X.cm, .int .i64 X.mi] 25)).alloc (.cells #[.int .i64 X.l.fuel, .int .i64 X.l.stack, .int .i64 X.l.heap] 33)).alloc (.cells #[.int .i64 0, .int .u8 0, .int .i64 0, .int .i64 0] 31)) #[.int .i64 0, .int .i64 0, .int .i64 0] 33
    simpa [Nat.add_assoc] using this

theorem run_no {Mg : Option Addr} {nmg cmg : Nat} {mgs : List V} {Aa : Option Addr} {na ca : Nat} {vs : List V} {Ab : Option Addr} {ng cb : Nat} {gs : List V} (h : Given W X Mg nmg cmg mgs Aa na vs Ab ng gs) (i : Int) (hb : beginB X.m i vs gs X.l = false) : Calls Try.prog 8 #[modV X, .int .i64 i, .slice Aa na ca, .slice Ab ng cb, limV X.l] W fun e W' => RunEnd W (runR X.m X.l i vs gs) e W' := by
  have er : runR X.m X.l i vs gs = ([], (0, zv), (0, 0, 0), 2) := by unfold runR; rw [if_neg (by rw [hb]; decide)]
  rw [er]
  obtain ⟨Wb, t5, hWb, ht5, hbb, B5, B9, B11, B12⟩ := four W X
  have hG := h.below hbb
  have HE := Lib.hid (And.intro hWb ht5)
  have ht5h := Lib.hid ht5
  have HP := Lib.hid (begin_no (ca := ca) (cb := cb) hG i hb)
  have HB := Lib.hid (And.intro hbb (And.intro B11 B12))
  unfold modV limV at *
  clear h hb er hWb ht5 hbb B5 B9 B11 B12 hG
  go_enter Try.func8, Try.ntmps8
  go_wp2_with fail
  rw [HE.out.1, HE.out.2]
  clear HE
  refine HP.out.mono ?_
  rintro e w2 ⟨rfl, hb2⟩
  have B11 := HB.out.2.1.below hb2
  have B12 := HB.out.2.2.below hb2
  have a0 := B11.c 0 _ rfl
  have a1 := B11.c 1 _ rfl
  have a2 := B11.c 2 _ rfl
  have a3 := B11.c 3 _ rfl
  have fa0 := B11.f 0
  have fa1 := B11.f 1
  have fa2 := B11.f 2
  have fa3 := B11.f 3
  have la := B11.l
  have b0 := B12.c 0 _ rfl
  have b1 := B12.c 1 _ rfl
  have b2 := B12.c 2 _ rfl
  have fb0 := B12.f 0
  have fb1 := B12.f 1
  have fb2 := B12.f 2
  have lb := B12.l
  obtain ⟨S11, S12, SB, -⟩ := stored7 B11 B12 (below_next HB.out.1 hb2) (by rw [← ht5h.out]; exact Nat.le_refl _) 0 0 0 0 0 0 0
  unfold W7 at S11 S12 SB
  have z0 := S11.c 0 _ rfl
  have z1 := S11.c 1 _ rfl
  have z2 := S11.c 2 _ rfl
  have z3 := S11.c 3 _ rfl
  have lz := S11.l
  have y0 := S12.c 0 _ rfl
  have y1 := S12.c 1 _ rfl
  have y2 := S12.c 2 _ rfl
  have ly := S12.l
  have HBF := Lib.hid SB
  clear hb2 B11 B12 S11 S12 SB HP
  go_wp2_with fail
  exact bodyPost_ret (v := .tuple #[.slice none 0 0, .agg #[.int .i64 0, .int .u8 0, .int .i64 0, .int .i64 0], .agg #[.int .i64 0, .int .i64 0, .int .i64 0], .int .i64 2]) (by simp [results, Try.results8, go_sem, z0, z1, z2, z3, y0, y1, y2]) rfl ⟨none, 0, rfl, HBF.out, .inl rfl, fun v hv => by cases hv⟩
end
#print axioms stored7
#print axioms four
#print axioms run_no
end Go.Proofs.Ytkhgpeejmbfmjaa
