/- Frames (package frame): Begin, Again, Get, Top, Set, Pop of a frame that was made. -/
import Derived.Test.YthllfeogchbihaaFrameA
import Derived.RegionTactic
import Derived.BigRegion
namespace Go.Proofs.Ythllfeogchbihaa
open Go.RowKit
set_option linter.unusedSimpArgs false
set_option linter.unusedVariables false

theorem kl3 : Maps.Keyed Try.prog 3 := Maps.int_keyed Try.underlying3
theorem zero3 (w : World) : (zeroValue 3).run Try.prog w = .ok (.int .i64 0) w := by kernel_rfl

/-- The turns behind a Begin. -/
def setT (T : Int → Int) (l t : Int) : Int → Int := fun k => if k = l then (if 0 < t then t else 0) else T k
theorem setT_same (T : Int → Int) (l t : Int) : setT T l t l = if 0 < t then t else 0 := by simp [setT]
theorem setT_other (T : Int → Int) {l k : Int} (t : Int) (h : k ≠ l) : setT T l t k = T k := by simp [setT, h]

section
variable {W : World} {base fg gm nm : Nat} {A : Option Addr} {cap : Nat} {F : Fr}
theorem FrAt.turned (h : FrAt W base fg gm nm A cap F) {W' : World} (t : Touch (fun b => b = gm) W W') {nm' : Nat} {D : DataW Unit} {T : Int → Int} (m1 : W'.ownsMap Try.prog 3 (plainElem Try.prog 3) gm nm' D) (m2 : Maps.IsMap D)
    (m3 : ∀ k : Int, D.atKey (.int .i64 k) (.lit (.int .i64 0)) = .lit (.int .i64 (T k))) (m4 : ∀ k, 0 ≤ T k ∧ T k ≤ 9223372036854775807) : FrAt W' base fg gm nm' A cap { F with turns := T } := by
  have hrow := h.rowBase
  refine { h with blk := h.blk.touch t h.ne, row := t.row h.row (fun g o c e e2 => ?_), bs := Nat.le_trans h.bs t.size, mp := ⟨D, m1, m2, m3⟩, tw := m4 }
  have e2 : g = gm := e2
  have := h.b2
  have h9 : base ≤ g := (hrow ⟨g, 0, none⟩ (by injection e)).1
  omega
theorem put_turns {D : DataW Unit} {T : Int → Int} (m2 : Maps.IsMap D) (m3 : ∀ k : Int, D.atKey (.int .i64 k) (.lit (.int .i64 0)) = .lit (.int .i64 (T k))) (l t : Int) (ht : 0 < t) :
    ∀ k : Int, (D.put (.int .i64 l) (.lit (.int .i64 t))).atKey (.int .i64 k) (.lit (.int .i64 0)) = .lit (.int .i64 (setT T l t k)) := by
  intro k
  by_cases e : k = l
  · subst e
    rw [Maps.atKey_put_same m2 (by trivial), setT_same, if_pos ht]
  · rw [Maps.atKey_put_other (by intro e2; injection e2 with _ e2; exact e e2), setT_other _ _ e, m3]
theorem del_turns {D : DataW Unit} {T : Int → Int} (m2 : Maps.IsMap D) (m3 : ∀ k : Int, D.atKey (.int .i64 k) (.lit (.int .i64 0)) = .lit (.int .i64 (T k))) (l t : Int) (ht : ¬ 0 < t) :
    ∀ k : Int, ((D.put (.int .i64 l) (.lit (.int .i64 t))).del (.int .i64 l)).atKey (.int .i64 k) (.lit (.int .i64 0)) = .lit (.int .i64 (setT T l t k)) := by
  intro k
  by_cases e : k = l
  · subst e
    rw [Maps.atKey_del_same, setT_same, if_neg ht]
  · have hne : (Lit.int .i64 k) ≠ Lit.int .i64 l := by intro e2; injection e2 with _ e2; exact e e2
    rw [Maps.atKey_del_other hne, Maps.atKey_put_other hne, setT_other _ _ e, m3]

def Begun (W : World) (base fg gm nm : Nat) (A : Option Addr) (cap : Nat) (F : Fr) (l t : Int) (e : Ending) (W' : World) : Prop :=
  e = .returned (.tuple #[]) ∧ Touch (fun b => b = gm) W W' ∧ FrAt W' base fg gm (nm + 1) A cap { F with turns := setT F.turns l t }

theorem begin_at (h : FrAt W base fg gm nm A cap F) (l t : Int) (hl : I64 l) (ht : I64 t) (hn : nm < 1000000) :
    Calls Try.prog 9 #[.pointer (some ⟨fg, 0, none⟩), .int .i64 l, .int .i64 t] W fun e W' => Begun W base fg gm nm A cap F l t e W' := by
  obtain ⟨D, m1, m2, m3⟩ := h.mp
  have hc := h.c51
  have hlt := h.blk.l
  have hne : some fg ≠ some gm := fun e => h.ne (by injection e)
  have HN := Lib.hid (none_at fg gm W hlt hc)
  have hn : nm < maxLen := by unfold maxLen; omega
  have hkey := key_int hl
  have hval : plainElem (H := Unit) Try.prog 3 (.int .i64 t) = some (.lit (.int .i64 t), []) := plainElem_int Try.underlying3 (wf_of_i64 ht)
  have HM := Lib.hid m1
  have HKEY := Lib.hid hkey
  have HVAL := Lib.hid hval
  have H := Lib.hid h
  have M2 := Lib.hid m2
  have M3 := Lib.hid m3
  have HT : Hid (∀ k, 0 ≤ setT F.turns l t k ∧ setT F.turns l t k ≤ 9223372036854775807) := by
    apply Lib.hid
    intro k
    unfold setT
    split
    · split
      · have := ht.2; omega
      · omega
    · exact h.tw k
  clear h m1 m2 m3 hkey hval
  by_cases h0 : 0 < t
  · go_enter Try.func9, Try.ntmps9
    go_wp2_with fail
    refine HN.out.mono ?_
    rintro e w1 ⟨rfl, rfl⟩
    go_wp2_with (first | (at_mapUpdate; refine wpList_mapUpdate_own _ rfl _ _ _ 57 rfl 3 3 kl3 Try.underlying57 _ gm nm D rfl HM.out hn _ _ (.int .i64 l) rfl rfl HKEY.out (.lit (.int .i64 t)) [] HVAL.out ?_; intro w2 hown2 hgrow2) | fail)
    go_end0
    have t1 : Touch (fun b => b = gm) w1 w2 := (Touch.refl _ _).grown hgrow2 (fun k e _ => by injection e with e; exact e.symm)
    exact ⟨rfl, t1, H.out.turned t1 hown2 (M2.out.put _ _) (put_turns M2.out M3.out l t h0) HT.out⟩
  · have h1 : t ≤ 0 := by omega
    go_enter Try.func9, Try.ntmps9
    go_wp2_with fail
    refine HN.out.mono ?_
    rintro e w1 ⟨rfl, rfl⟩
    go_wp2_with (first | (at_mapUpdate; refine wpList_mapUpdate_own _ rfl _ _ _ 57 rfl 3 3 kl3 Try.underlying57 _ gm nm D rfl HM.out hn _ _ (.int .i64 l) rfl rfl HKEY.out (.lit (.int .i64 t)) [] HVAL.out ?_; intro w2 hown2 hgrow2; have HO2 := Lib.hid hown2; have hc2 := hgrow2.cell hc hne; have HG2 := Lib.hid hgrow2; clear hown2 hgrow2) | (at_delete; refine wpList_delete_own _ rfl _ _ 57 3 rfl 3 kl3 Try.underlying57 _ gm (nm + 1) _ rfl HO2.out _ (.int .i64 l) rfl HKEY.out ?_; intro w3 hown3 hgrow3) | fail)
    go_end0
    have t1 : Touch (fun b => b = gm) w1 w2 := (Touch.refl _ _).grown HG2.out (fun k e _ => by injection e with e; exact e.symm)
    have t2 : Touch (fun b => b = gm) w1 w3 := t1.grown hgrow3.grown (fun k e _ => by injection e with e; exact e.symm)
    exact ⟨rfl, t2, H.out.turned t2 hown3 ((M2.out.put _ _).del _) (del_turns M2.out M3.out l t (by omega)) HT.out⟩

theorem again_no (h : FrAt W base fg gm nm A cap F) (l : Int) (hl : I64 l) (h0 : F.turns l = 0) :
    Calls Try.prog 10 #[.pointer (some ⟨fg, 0, none⟩), .int .i64 l] W fun e W' => e = .returned (.tuple #[.bool false, .bool false]) ∧ W' = W := by
  obtain ⟨D, m1, m2, m3⟩ := h.mp
  have hc := h.c51
  have hlt := h.blk.l
  have HN := Lib.hid (none_at fg gm W hlt hc)
  obtain ⟨c, hrun, hat, hwc⟩ := m1.lookup_int kl3 Try.underlying57 Try.underlying3 (zero3 _) (key_int hl)
  rw [m3, h0] at hat
  have hc0 : c = 0 := by injection hat with hat; injection hat with _ hat; exact hat.symm
  subst hc0
  clear h m1 m2 m3 hat hwc
  go_enter Try.func10, Try.ntmps10
  go_wp2_with fail
  refine HN.out.mono ?_
  rintro e w1 ⟨rfl, rfl⟩
  go_wp2_with fail
  go_ret2
  exact ⟨rfl, rfl⟩
def Againd (W : World) (base fg gm nm : Nat) (A : Option Addr) (cap : Nat) (F : Fr) (l : Int) (e : Ending) (W' : World) : Prop :=
  e = .returned (.tuple #[.bool (decide (1 < F.turns l)), .bool true]) ∧ Touch (fun b => b = gm) W W' ∧ FrAt W' base fg gm (nm + 1) A cap { F with turns := setT F.turns l (F.turns l - 1) }
theorem again_yes (h : FrAt W base fg gm nm A cap F) (l : Int) (hl : I64 l) (h0 : F.turns l ≠ 0) (hn : nm < 1000000) :
    Calls Try.prog 10 #[.pointer (some ⟨fg, 0, none⟩), .int .i64 l] W fun e W' => Againd W base fg gm nm A cap F l e W' := by
  obtain ⟨D, m1, m2, m3⟩ := h.mp
  have hc := h.c51
  have hlt := h.blk.l
  have HN := Lib.hid (none_at fg gm W hlt hc)
  obtain ⟨c, hrun, hat, hwc⟩ := m1.lookup_int kl3 Try.underlying57 Try.underlying3 (zero3 _) (key_int hl)
  rw [m3] at hat
  have hc0 : c = F.turns l := by injection hat with hat; injection hat with _ hat; exact hat.symm
  have htw := h.tw l
  have HB := begin_at h l (F.turns l - 1) hl ⟨by omega, by omega⟩ hn
  have HF : Hid (∀ e W', Begun W base fg gm nm A cap F l (F.turns l - 1) e W' → Againd W base fg gm nm A cap F l (.returned (.tuple #[.bool (decide (1 < F.turns l)), .bool true])) W') := by
    apply Lib.hid
    rintro e W' ⟨-, k1, k2⟩
    exact ⟨rfl, k1, k2⟩
  have hret : Hid (∀ e W', Begun W base fg gm nm A cap F l (F.turns l - 1) e W' → e = .returned (.tuple #[])) := Lib.hid (fun e W' h => h.1)
  rw [hc0] at hrun
  have HB := Lib.hid HB
  generalize F.turns l = T at *
  clear hc0 hat hwc h m1 m2 m3
  have c0 : (T == 0) = false := by rw [beq_eq_false_iff_ne]; exact h0
  have c1 : 1 ≤ T := by omega
  have c2 : T ≤ 9223372036854775807 := htw.2
  clear h0 htw
  go_enter Try.func10, Try.ntmps10
  go_wp2_with fail
  refine HN.out.mono ?_
  rintro e w1 ⟨rfl, rfl⟩
  go_wp2_with fail
  refine HB.out.mono ?_
  intro e w2 hb
  obtain rfl := hret.out _ _ hb
  have H2 := Lib.hid (HF.out _ _ hb)
  clear hb HF hret HB
  go_wp2_with fail
  go_ret2
  exact H2.out

/-! Get -/
theorem none_al (fg gm : Nat) (W : World) (o : Obj) (hl : fg < W.heap.size) (hc : W.cell? ⟨fg, 51, none⟩ = some (.map (some gm))) :
    Calls Try.prog 24 #[.pointer (some ⟨fg, 0, none⟩)] (W.alloc o) fun e w' => e = .returned (.bool false) ∧ w' = W.alloc o :=
  none_at fg gm _ (by simp; omega) ((((Below.refl _ W).alloc (Nat.le_refl _) o : Below W.heap.size W _).cell (p := ⟨fg, 51, none⟩) hl).trans hc)
theorem get_yes (h : FrAt W base fg gm nm A cap F) {i : Nat} (hi : i < F.many) (hl : i < F.locs.length) :
    Calls Try.prog 14 #[.pointer (some ⟨fg, 0, none⟩), .int .i64 i] W fun e W' => e = .returned (.tuple #[vagg F.locs[i], .bool true]) ∧ Below W.heap.size W W' := by
  have hc := h.c51
  have hm := h.c48
  have hlt := h.blk.l
  have hml := h.ml
  obtain ⟨hl2, a0, a1, a2⟩ := h.cl (show i < 16 by omega)
  have b1 : (i : Int) < (F.many : Int) := by omega
  have b2 : (F.many : Int) ≤ 16 := by omega
  have b3 : (i : Int) < 16 := by omega
  unfold vagg
  generalize F.locs[i].1 = x0 at *
  generalize F.locs[i].2.1 = x1 at *
  generalize F.locs[i].2.2 = x2 at *
  generalize F.many = M at *
  have HN := Lib.hid (fun o => none_al fg gm W o hlt hc)
  clear h
  go_enter Try.func14, Try.ntmps14
  go_wp2_with fail
  refine (HN.out _).mono ?_
  rintro e w1 ⟨rfl, rfl⟩
  go_wp2_with fail
  exact bodyPost_ret (v := .tuple #[.agg #[.int .u8 x0, .int .i64 x1, .int .i64 x2], .bool true]) (by simp [results, Try.results14, go_sem]) rfl ⟨rfl, (Below.refl _ _).alloc (Nat.le_refl _) _⟩
theorem get_no (h : FrAt W base fg gm nm A cap F) {i : Int} (hi : i < 0 ∨ (F.many : Int) ≤ i) :
    Calls Try.prog 14 #[.pointer (some ⟨fg, 0, none⟩), .int .i64 i] W fun e W' => e = .returned (.tuple #[vagg zv, .bool false]) ∧ Below W.heap.size W W' := by
  have hc := h.c51
  have hm := h.c48
  have hlt := h.blk.l
  have hml := h.ml
  have b2 : (F.many : Int) ≤ 16 := by omega
  generalize F.many = M at *
  have HN := Lib.hid (fun o => none_al fg gm W o hlt hc)
  clear h
  unfold vagg zv
  by_cases h0 : i < 0
  · clear hi
    go_enter Try.func14, Try.ntmps14
    go_wp2_with fail
    refine (HN.out _).mono ?_
    rintro e w1 ⟨rfl, rfl⟩
    go_wp2_with fail
    exact bodyPost_ret (v := .tuple #[.agg #[.int .u8 0, .int .i64 0, .int .i64 0], .bool false]) (by simp [results, Try.results14, go_sem]) rfl ⟨rfl, (Below.refl _ _).alloc (Nat.le_refl _) _⟩
  · have h1 : (M : Int) ≤ i := by omega
    have h2 : 0 ≤ i := by omega
    clear hi h0
    go_enter Try.func14, Try.ntmps14
    go_wp2_with fail
    refine (HN.out _).mono ?_
    rintro e w1 ⟨rfl, rfl⟩
    go_wp2_with fail
    exact bodyPost_ret (v := .tuple #[.agg #[.int .u8 0, .int .i64 0, .int .i64 0], .bool false]) (by simp [results, Try.results14, go_sem]) rfl ⟨rfl, (Below.refl _ _).alloc (Nat.le_refl _) _⟩

/-! Top -/
theorem top_no (h : FrAt W base fg gm nm A cap F) (h0 : F.stk = []) :
    Calls Try.prog 13 #[.pointer (some ⟨fg, 0, none⟩)] W fun e W' => e = .returned (.tuple #[vagg zv, .bool false]) ∧ Below W.heap.size W W' := by
  have hc := h.c51
  have hm := h.c49
  rw [h0] at hm
  have hlt := h.blk.l
  have HN := Lib.hid (fun o => none_al fg gm W o hlt hc)
  simp only [List.length_nil] at hm
  clear h h0
  unfold vagg zv
  go_enter Try.func13, Try.ntmps13
  go_wp2_with fail
  refine (HN.out _).mono ?_
  rintro e w1 ⟨rfl, rfl⟩
  go_wp2_with fail
  exact bodyPost_ret (v := .tuple #[.agg #[.int .u8 0, .int .i64 0, .int .i64 0], .bool false]) (by simp [results, Try.results13, go_sem]) rfl ⟨rfl, (Below.refl _ _).alloc (Nat.le_refl _) _⟩
theorem top_yes (h : FrAt W base fg gm nm A cap F) {l : List V} {v : V} (h0 : F.stk = l ++ [v]) :
    Calls Try.prog 13 #[.pointer (some ⟨fg, 0, none⟩)] W fun e W' => e = .returned (.tuple #[vagg v, .bool true]) ∧ Below W.heap.size W W' := by
  have hc := h.c51
  have hm := h.c49
  have hlt := h.blk.l
  have hsl := h.sl
  have hlen : F.stk.length = l.length + 1 := by rw [h0]; simp
  obtain ⟨g, rfl, hgb, hgl, -, a0, a1, a2⟩ := h.stk (i := l.length) (by omega)
  have hv : F.stk[l.length]'(by omega) = v := by simp [h0]
  rw [hv] at a0 a1 a2
  rw [hlen] at hm hsl
  clear hv hlen h0
  have hne : ¬ g = fg := by have := h.b1; omega
  unfold vagg
  generalize v.1 = x0 at *
  generalize v.2.1 = x1 at *
  generalize v.2.2 = x2 at *
  generalize l.length = q at *
  have HN := Lib.hid (fun o => none_al fg gm W o hlt hc)
  have q1 : (q : Int) ≤ 256 := by omega
  clear h
  go_enter Try.func13, Try.ntmps13
  go_wp2_with fail
  refine (HN.out _).mono ?_
  rintro e w1 ⟨rfl, rfl⟩
  go_wp2_with fail
  go_region
  all_goals
    go_wp2_with fail
    refine bodyPost_ret (v := .tuple #[.agg #[.int .u8 x0, .int .i64 x1, .int .i64 x2], .bool true]) (by simp [results, Try.results13, go_sem]) rfl ⟨rfl, ?_⟩
    have hb := (Below.refl W.heap.size W).alloc (Nat.le_refl _) (.cells #[.int .u8 x0, .int .i64 x1, .int .i64 x2] 37)
    exact ⟨hb.os, hb.tape, hb.output, hb.size, hb.block⟩
end
end Go.Proofs.Ythllfeogchbihaa
