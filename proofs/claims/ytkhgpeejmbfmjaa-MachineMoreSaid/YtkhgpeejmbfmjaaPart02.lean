/- Parts of the walk, joined. -/
import Derived.Test.YtkhgpeejmbfmjaaPart01
import Derived.RegionTactic
import Derived.BigRegion
import Derived.Deep.AppendLies
import Derived.Carry
import Derived.Maps.AppendAt
import Derived.StillTailTactics
import Derived.Deep.RegionLaw
import Derived.Deep.RegionLawGrows
/- Frames (package frame): Begin, Again, Get, Top, Set, Pop of a frame that was made. -/
namespace Go.Proofs.Ytkhgpeejmbfmjaa
open Go.RowKit
set_option linter.unusedSimpArgs false
set_option linter.unusedVariables false
set_option maxRecDepth 100000

theorem kl3 : Maps.Keyed Try.prog 3 := Maps.int_keyed Try.underlying3
theorem zero3 (w : World) : (zeroValue 3).run Try.prog w = .ok (.int .i64 0) w := by kernel_rfl

/-- The turns behind a Begin. -/
def setT (T : Int → Int) (l t : Int) : Int → Int := fun k => if k = l then (if 0 < t then t else 0) else T k
theorem setT_same (T : Int → Int) (l t : Int) : setT T l t l = if 0 < t then t else 0 := by simp [setT]
theorem setT_other (T : Int → Int) {l k : Int} (t : Int) (h : k ≠ l) : setT T l t k = T k := by simp [setT, h]

section
variable {W : World} {base fg gm nm : Nat} {A : Option Addr} {cap : Nat} {F : Fr}
theorem FrAt.turned (h : FrAt W base fg gm nm A cap F) {W' : World} (t : Touch (fun b => b = gm) W W') {nm' : Nat} {D : DataW Unit} {T : Int → Int} (m1 : W'.ownsMap Try.prog 3 (plainElem Try.prog 3) gm nm' D) (m2 : Maps.IsMap D)
    (m3 : ∀ k : Int, D.atKey (.int .i64 k) (.lit (.int .i64 0)) = .lit (.int .i64 (T k))) (m4 : ∀ k, 0 ≤ T k ∧ T k ≤ 9223372036854775807) : FrAt W' base fg gm nm' A cap { F with turns := T } := by
  have hrow := h.rowBase
  refine { h with blk := h.blk.touch t h.ne, row := t.row h.row (fun g o c e e2 => ?_), bs := Nat.le_trans h.bs t.size, mp := ⟨D, m1, m2, m3⟩, tw := m4 }
  have e2 : g = gm := e2
  have := h.b2
  have h9 : base ≤ g := (hrow ⟨g, 0, none⟩ (by injection e)).1
  omega
theorem put_turns {D : DataW Unit} {T : Int → Int} (m2 : Maps.IsMap D) (m3 : ∀ k : Int, D.atKey (.int .i64 k) (.lit (.int .i64 0)) = .lit (.int .i64 (T k))) (l t : Int) (ht : 0 < t) :
    ∀ k : Int, (D.put (.int .i64 l) (.lit (.int .i64 t))).atKey (.int .i64 k) (.lit (.int .i64 0)) = .lit (.int .i64 (setT T l t k)) := by
  intro k
  by_cases e : k = l
  · subst e
    rw [Maps.atKey_put_same m2 (by trivial), setT_same, if_pos ht]
  · rw [Maps.atKey_put_other (by intro e2; injection e2 with _ e2; exact e e2), setT_other _ _ e, m3]
theorem del_turns {D : DataW Unit} {T : Int → Int} (m2 : Maps.IsMap D) (m3 : ∀ k : Int, D.atKey (.int .i64 k) (.lit (.int .i64 0)) = .lit (.int .i64 (T k))) (l t : Int) (ht : ¬ 0 < t) :
    ∀ k : Int, ((D.put (.int .i64 l) (.lit (.int .i64 t))).del (.int .i64 l)).atKey (.int .i64 k) (.lit (.int .i64 0)) = .lit (.int .i64 (setT T l t k)) := by
  intro k
  by_cases e : k = l
  · subst e
    rw [Maps.atKey_del_same, setT_same, if_neg ht]
  · have hne : (Lit.int .i64 k) ≠ Lit.int .i64 l := by intro e2; injection e2 with _ e2; exact e e2
    rw [Maps.atKey_del_other hne, Maps.atKey_put_other hne, setT_other _ _ e, m3]

def Begun (W : World) (base fg gm nm : Nat) (A : Option Addr) (cap : Nat) (F : Fr) (l t : Int) (e : Ending) (W' : World) : Prop :=
  e = .returned (.tuple #[]) ∧ Touch (fun b => b = gm) W W' ∧ FrAt W' base fg gm (nm + 1) A cap { F with turns := setT F.turns l t }

theorem begin_at (h : FrAt W base fg gm nm A cap F) (l t : Int) (hl : I64 l) (ht : I64 t) (hn : nm < 1000000) :
    Calls Try.prog 71 #[.pointer (some ⟨fg, 0, none⟩), .int .i64 l, .int .i64 t] W fun e W' => Begun W base fg gm nm A cap F l t e W' := by
  obtain ⟨D, m1, m2, m3⟩ := h.mp
  have hc := h.c51
  have hlt := h.blk.l
  have hne : some fg ≠ some gm := fun e => h.ne (by injection e)
  have HN := Lib.hid (none_at fg gm W hlt hc)
  have hn : nm < maxLen := by unfold maxLen; omega
  have hkey := key_int hl
  have hval : plainElem (H := Unit) Try.prog 3 (.int .i64 t) = some (.lit (.int .i64 t), []) := plainElem_int Try.underlying3 (wf_of_i64 ht)
  have HM := Lib.hid m1
  have HKEY := Lib.hid hkey
  have HVAL := Lib.hid hval
  have H := Lib.hid h
  have M2 := Lib.hid m2
  have M3 := Lib.hid m3
  have HT : Hid (∀ k, 0 ≤ setT F.turns l t k ∧ setT F.turns l t k ≤ 9223372036854775807) := by
    apply Lib.hid
    intro k
    unfold setT
    split
    · split
      · have := ht.2; omega
      · omega
    · exact h.tw k
  clear h m1 m2 m3 hkey hval
  by_cases h0 : 0 < t
  · go_enter Try.func71, Try.ntmps71
    go_wp2_with fail
    refine HN.out.mono ?_
    rintro e w1 ⟨rfl, rfl⟩
    go_wp2_with (first | (at_mapUpdate; refine wpList_mapUpdate_own _ rfl _ _ _ 81 rfl 3 3 kl3 Try.underlying81 _ gm nm D rfl HM.out hn _ _ (.int .i64 l) rfl rfl HKEY.out (.lit (.int .i64 t)) [] HVAL.out ?_; intro w2 hown2 hgrow2) | fail)
    go_end0
    have t1 : Touch (fun b => b = gm) w1 w2 := (Touch.refl _ _).grown hgrow2 (fun k e _ => by injection e with e; exact e.symm)
    exact ⟨rfl, t1, H.out.turned t1 hown2 (M2.out.put _ _) (put_turns M2.out M3.out l t h0) HT.out⟩
  · have h1 : t ≤ 0 := by omega
    go_enter Try.func71, Try.ntmps71
    go_wp2_with fail
    refine HN.out.mono ?_
    rintro e w1 ⟨rfl, rfl⟩
    go_wp2_with (first | (at_mapUpdate; refine wpList_mapUpdate_own _ rfl _ _ _ 81 rfl 3 3 kl3 Try.underlying81 _ gm nm D rfl HM.out hn _ _ (.int .i64 l) rfl rfl HKEY.out (.lit (.int .i64 t)) [] HVAL.out ?_; intro w2 hown2 hgrow2; have HO2 := Lib.hid hown2; have hc2 := hgrow2.cell hc hne; have HG2 := Lib.hid hgrow2; clear hown2 hgrow2) | (at_delete; refine wpList_delete_own _ rfl _ _ 81 3 rfl 3 kl3 Try.underlying81 _ gm (nm + 1) _ rfl HO2.out _ (.int .i64 l) rfl HKEY.out ?_; intro w3 hown3 hgrow3) | fail)
    go_end0
    have t1 : Touch (fun b => b = gm) w1 w2 := (Touch.refl _ _).grown HG2.out (fun k e _ => by injection e with e; exact e.symm)
    have t2 : Touch (fun b => b = gm) w1 w3 := t1.grown hgrow3.grown (fun k e _ => by injection e with e; exact e.symm)
    exact ⟨rfl, t2, H.out.turned t2 hown3 ((M2.out.put _ _).del _) (del_turns M2.out M3.out l t (by omega)) HT.out⟩

theorem again_no (h : FrAt W base fg gm nm A cap F) (l : Int) (hl : I64 l) (h0 : F.turns l = 0) :
    Calls Try.prog 72 #[.pointer (some ⟨fg, 0, none⟩), .int .i64 l] W fun e W' => e = .returned (.tuple #[.bool false, .bool false]) ∧ W' = W := by
  obtain ⟨D, m1, m2, m3⟩ := h.mp
  have hc := h.c51
  have hlt := h.blk.l
  have HN := Lib.hid (none_at fg gm W hlt hc)
  obtain ⟨c, hrun, hat, hwc⟩ := m1.lookup_int kl3 Try.underlying81 Try.underlying3 (zero3 _) (key_int hl)
  rw [m3, h0] at hat
  have hc0 : c = 0 := by injection hat with hat; injection hat with _ hat; exact hat.symm
  subst hc0
  clear h m1 m2 m3 hat hwc
  go_enter Try.func72, Try.ntmps72
  go_wp2_with fail
  refine HN.out.mono ?_
  rintro e w1 ⟨rfl, rfl⟩
  go_wp2_with fail
  go_ret2
  exact ⟨rfl, rfl⟩
def Againd (W : World) (base fg gm nm : Nat) (A : Option Addr) (cap : Nat) (F : Fr) (l : Int) (e : Ending) (W' : World) : Prop :=
  e = .returned (.tuple #[.bool (decide (1 < F.turns l)), .bool true]) ∧ Touch (fun b => b = gm) W W' ∧ FrAt W' base fg gm (nm + 1) A cap { F with turns := setT F.turns l (F.turns l - 1) }
theorem again_yes (h : FrAt W base fg gm nm A cap F) (l : Int) (hl : I64 l) (h0 : F.turns l ≠ 0) (hn : nm < 1000000) :
    Calls Try.prog 72 #[.pointer (some ⟨fg, 0, none⟩), .int .i64 l] W fun e W' => Againd W base fg gm nm A cap F l e W' := by
  obtain ⟨D, m1, m2, m3⟩ := h.mp
  have hc := h.c51
  have hlt := h.blk.l
  have HN := Lib.hid (none_at fg gm W hlt hc)
  obtain ⟨c, hrun, hat, hwc⟩ := m1.lookup_int kl3 Try.underlying81 Try.underlying3 (zero3 _) (key_int hl)
  rw [m3] at hat
  have hc0 : c = F.turns l := by injection hat with hat; injection hat with _ hat; exact hat.symm
  have htw := h.tw l
  have HB := begin_at h l (F.turns l - 1) hl ⟨by omega, by omega⟩ hn
  have HF : Hid (∀ e W', Begun W base fg gm nm A cap F l (F.turns l - 1) e W' → Againd W base fg gm nm A cap F l (.returned (.tuple #[.bool (decide (1 < F.turns l)), .bool true])) W') := by
    apply Lib.hid
    rintro e W' ⟨-, k1, k2⟩
    exact ⟨rfl, k1, k2⟩
  have hret : Hid (∀ e W', Begun W base fg gm nm A cap F l (F.turns l - 1) e W' → e = .returned (.tuple #[])) := Lib.hid (fun e W' h => h.1)
  rw [hc0] at hrun
  have HB := Lib.hid HB
  generalize F.turns l = T at *
  clear hc0 hat hwc h m1 m2 m3
  have c0 : (T == 0) = false := by rw [beq_eq_false_iff_ne]; exact h0
  have c1 : 1 ≤ T := by omega
  have c2 : T ≤ 9223372036854775807 := htw.2
  clear h0 htw
  go_enter Try.func72, Try.ntmps72
  go_wp2_with fail
  refine HN.out.mono ?_
  rintro e w1 ⟨rfl, rfl⟩
  go_wp2_with fail
  refine HB.out.mono ?_
  intro e w2 hb
  obtain rfl := hret.out _ _ hb
  have H2 := Lib.hid (HF.out _ _ hb)
  clear hb HF hret HB
  go_wp2_with fail
  go_ret2
  exact H2.out

/-! Get -/
theorem none_al (fg gm : Nat) (W : World) (o : Obj) (hl : fg < W.heap.size) (hc : W.cell? ⟨fg, 51, none⟩ = some (.map (some gm))) :
    Calls Try.prog 32 #[.pointer (some ⟨fg, 0, none⟩)] (W.alloc o) fun e w' => e = .returned (.bool false) ∧ w' = W.alloc o :=
  none_at fg gm _ (by simp; omega) ((((Below.refl _ W).alloc (Nat.le_refl _) o : Below W.heap.size W _).cell (p := ⟨fg, 51, none⟩) hl).trans hc)
theorem get_yes (h : FrAt W base fg gm nm A cap F) {i : Nat} (hi : i < F.many) (hl : i < F.locs.length) :
    Calls Try.prog 50 #[.pointer (some ⟨fg, 0, none⟩), .int .i64 i] W fun e W' => e = .returned (.tuple #[vagg F.locs[i], .bool true]) ∧ Below W.heap.size W W' := by
  have hc := h.c51
  have hm := h.c48
  have hlt := h.blk.l
  have hml := h.ml
  obtain ⟨hl2, a0, a1, a2⟩ := h.cl (show i < 16 by omega)
  have b1 : (i : Int) < (F.many : Int) := by omega
  have b2 : (F.many : Int) ≤ 16 := by omega
  have b3 : (i : Int) < 16 := by omega
  unfold vagg
  generalize F.locs[i].1 = x0 at *
  generalize F.locs[i].2.1 = x1 at *
  generalize F.locs[i].2.2 = x2 at *
  generalize F.many = M at *
  have HN := Lib.hid (fun o => none_al fg gm W o hlt hc)
  clear h
  go_enter Try.func50, Try.ntmps50
  go_wp2_with fail
  refine (HN.out _).mono ?_
  rintro e w1 ⟨rfl, rfl⟩
  go_wp2_with fail
  exact bodyPost_ret (v := .tuple #[.agg #[.int .u8 x0, .int .i64 x1, .int .i64 x2], .bool true]) (by simp [results, Try.results50, go_sem]) rfl ⟨rfl, (Below.refl _ _).alloc (Nat.le_refl _) _⟩
theorem get_no (h : FrAt W base fg gm nm A cap F) {i : Int} (hi : i < 0 ∨ (F.many : Int) ≤ i) :
    Calls Try.prog 50 #[.pointer (some ⟨fg, 0, none⟩), .int .i64 i] W fun e W' => e = .returned (.tuple #[vagg zv, .bool false]) ∧ Below W.heap.size W W' := by
  have hc := h.c51
  have hm := h.c48
  have hlt := h.blk.l
  have hml := h.ml
  have b2 : (F.many : Int) ≤ 16 := by omega
  generalize F.many = M at *
  have HN := Lib.hid (fun o => none_al fg gm W o hlt hc)
  clear h
  unfold vagg zv
  by_cases h0 : i < 0
  · clear hi
    go_enter Try.func50, Try.ntmps50
    go_wp2_with fail
    refine (HN.out _).mono ?_
    rintro e w1 ⟨rfl, rfl⟩
    go_wp2_with fail
    exact bodyPost_ret (v := .tuple #[.agg #[.int .u8 0, .int .i64 0, .int .i64 0], .bool false]) (by simp [results, Try.results50, go_sem]) rfl ⟨rfl, (Below.refl _ _).alloc (Nat.le_refl _) _⟩
  · have h1 : (M : Int) ≤ i := by omega
    have h2 : 0 ≤ i := by omega
    clear hi h0
    go_enter Try.func50, Try.ntmps50
    go_wp2_with fail
    refine (HN.out _).mono ?_
    rintro e w1 ⟨rfl, rfl⟩
    go_wp2_with fail
    exact bodyPost_ret (v := .tuple #[.agg #[.int .u8 0, .int .i64 0, .int .i64 0], .bool false]) (by simp [results, Try.results50, go_sem]) rfl ⟨rfl, (Below.refl _ _).alloc (Nat.le_refl _) _⟩

/-! Top -/
theorem top_no (h : FrAt W base fg gm nm A cap F) (h0 : F.stk = []) :
    Calls Try.prog 79 #[.pointer (some ⟨fg, 0, none⟩)] W fun e W' => e = .returned (.tuple #[vagg zv, .bool false]) ∧ Below W.heap.size W W' := by
  have hc := h.c51
  have hm := h.c49
  rw [h0] at hm
  have hlt := h.blk.l
  have HN := Lib.hid (fun o => none_al fg gm W o hlt hc)
  simp only [List.length_nil] at hm
  clear h h0
  unfold vagg zv
  go_enter Try.func79, Try.ntmps79
  go_wp2_with fail
  refine (HN.out _).mono ?_
  rintro e w1 ⟨rfl, rfl⟩
  go_wp2_with fail
  exact bodyPost_ret (v := .tuple #[.agg #[.int .u8 0, .int .i64 0, .int .i64 0], .bool false]) (by simp [results, Try.results79, go_sem]) rfl ⟨rfl, (Below.refl _ _).alloc (Nat.le_refl _) _⟩
theorem top_yes (h : FrAt W base fg gm nm A cap F) {l : List V} {v : V} (h0 : F.stk = l ++ [v]) :
    Calls Try.prog 79 #[.pointer (some ⟨fg, 0, none⟩)] W fun e W' => e = .returned (.tuple #[vagg v, .bool true]) ∧ Below W.heap.size W W' := by
  have hc := h.c51
  have hm := h.c49
  have hlt := h.blk.l
  have hsl := h.sl
  have hlen : F.stk.length = l.length + 1 := by rw [h0]; simp
  obtain ⟨g, rfl, hgb, hgl, -, a0, a1, a2⟩ := h.stk (i := l.length) (by omega)
  have hv : F.stk[l.length]'(by omega) = v := by simp [h0]
  rw [hv] at a0 a1 a2
  rw [hlen] at hm hsl
  clear hv hlen h0
  have hne : ¬ g = fg := by have := h.b1; omega
  unfold vagg
  generalize v.1 = x0 at *
  generalize v.2.1 = x1 at *
  generalize v.2.2 = x2 at *
  generalize l.length = q at *
  have HN := Lib.hid (fun o => none_al fg gm W o hlt hc)
  have q1 : (q : Int) ≤ 256 := by omega
  clear h
  go_enter Try.func79, Try.ntmps79
  go_wp2_with fail
  refine (HN.out _).mono ?_
  rintro e w1 ⟨rfl, rfl⟩
  go_wp2_with fail
  go_region
  all_goals
    go_wp2_with fail
    refine bodyPost_ret (v := .tuple #[.agg #[.int .u8 x0, .int .i64 x1, .int .i64 x2], .bool true]) (by simp [results, Try.results79, go_sem]) rfl ⟨rfl, ?_⟩
    have hb := (Below.refl W.heap.size W).alloc (Nat.le_refl _) (.cells #[.int .u8 x0, .int .i64 x1, .int .i64 x2] 29)
    exact ⟨hb.os, hb.tape, hb.output, hb.size, hb.block⟩
end
end Go.Proofs.Ytkhgpeejmbfmjaa
/- Frames (package frame): Set, Pop, Push of a frame that was made. -/
namespace Go.Proofs.Ytkhgpeejmbfmjaa
open Go.RowKit
set_option linter.unusedSimpArgs false
set_option linter.unusedVariables false
set_option maxRecDepth 100000

section
variable {W : World} {base fg gm nm : Nat} {A : Option Addr} {cap : Nat} {F : Fr}
/-- Another local. -/
theorem FrAt.setLoc (h : FrAt W base fg gm nm A cap F) {i : Nat} (hi : i < 16) (v : V) (hv : VOk v) {W' : World} (hw : W' = ((W.setCell ⟨fg, i * 3, none⟩ (.int .u8 v.1)).setCell ⟨fg, i * 3 + 1, none⟩ (.int .i64 v.2.1)).setCell ⟨fg, i * 3 + 2, none⟩ (.int .i64 v.2.2)) :
    Touch (fun b => b = fg) W W' ∧ FrAt W' base fg gm nm A cap { F with locs := F.locs.set i v } := by
  have t : Touch (fun b => b = fg) W W' := by
    rw [hw]
    exact (((Touch.refl (fun b => b = fg) W).setCell _ _ (fun _ => rfl)).setCell _ _ (fun _ => rfl)).setCell _ _ (fun _ => rfl)
  have hrow := h.rowBase
  have e : (vcs F.locs).length = 48 := by rw [vcs_length, h.ll]
  have hl : i < F.locs.length := by rw [h.ll]; exact hi
  obtain ⟨a1, a2, a3⟩ := vcs_get F.locs i hl
  obtain ⟨D, m1, m2, m3⟩ := h.mp
  refine ⟨t, { h with blk := ?_, ll := by simpa using h.ll, row := t.row h.row (fun g o c e e2 => ?_), bs := Nat.le_trans h.bs t.size, mp := ⟨D, ownsMap_touch t m1 (fun e => h.ne e.symm), m2, m3⟩, vo := ?_ }⟩
  · have hb := ((h.blk.set (j := i * 3) (u := .int .u8 F.locs[i].1) (by rw [List.getElem?_append_left (by omega)]; exact a1) (.int .u8 v.1)).set (j := i * 3 + 1) (u := .int .i64 F.locs[i].2.1) (by rw [List.getElem?_set_ne (by omega), List.getElem?_append_left (by omega)]; exact a2) (.int .i64 v.2.1)).set (j := i * 3 + 2) (u := .int .i64 F.locs[i].2.2) (by rw [List.getElem?_set_ne (by omega), List.getElem?_set_ne (by omega), List.getElem?_append_left (by omega)]; exact a3) (.int .i64 v.2.2)
    rw [List.set_append_left _ _ (by omega), List.set_append_left _ _ (by rw [List.length_set]; omega), List.set_append_left _ _ (by rw [List.length_set, List.length_set]; omega), vcs_set _ _ _ hl] at hb
    rw [hw]
    exact hb
  · have e2 : g = fg := e2
    have h9 : base ≤ g := (hrow ⟨g, 0, none⟩ (by injection e)).1
    have := h.b1
    omega
  · intro u hu
    rcases List.mem_or_eq_of_mem_set hu with hu | rfl
    · exact h.vo u hu
    · exact hv
/-- Another place. -/
theorem FrAt.setPlace (h : FrAt W base fg gm nm A cap F) (p : Int) {W' : World} (hw : W' = W.setCell ⟨fg, 50, none⟩ (.int .i64 p)) :
    Touch (fun b => b = fg) W W' ∧ FrAt W' base fg gm nm A cap { F with place := p } := by
  have t : Touch (fun b => b = fg) W W' := by
    rw [hw]
    exact (Touch.refl (fun b => b = fg) W).setCell _ _ (fun _ => rfl)
  have hrow := h.rowBase
  have e : (vcs F.locs).length = 48 := by rw [vcs_length, h.ll]
  obtain ⟨D, m1, m2, m3⟩ := h.mp
  refine ⟨t, { h with blk := ?_, row := t.row h.row (fun g o c e e2 => ?_), bs := Nat.le_trans h.bs t.size, mp := ⟨D, ownsMap_touch t m1 (fun e => h.ne e.symm), m2, m3⟩ }⟩
  · have hb := h.blk.set (j := 50) (u := .int .i64 F.place) (by rw [List.getElem?_append_right (by omega), e]; rfl) (.int .i64 p)
    rw [List.set_append_right _ _ (by omega), e] at hb
    rw [hw]
    exact hb
  · have e2 : g = fg := e2
    have h9 : base ≤ g := (hrow ⟨g, 0, none⟩ (by injection e)).1
    have := h.b1
    omega
/-- Another stack: the slice is stored in a world where the new row lies. -/
theorem FrAt.restack (h : FrAt W base fg gm nm A cap F) {S : Nat → Prop} {W1 W' : World} (t : Touch S W W1) (h1 : ¬ S fg) (h2 : ¬ S gm) {A' : Option Addr} {cap' : Nat} {l : List V} (hl : l.length ≤ 256) (hso : ∀ v ∈ l, VOk v)
    (hrow : W1.ownsRow base 29 3 (.slice A' l.length cap') l.length (vcs l)) (hw : W' = W1.setCell ⟨fg, 49, none⟩ (.slice A' l.length cap')) : Touch (fun b => b = fg) W1 W' ∧ FrAt W' base fg gm nm A' cap' { F with stk := l } := by
  have t' : Touch (fun b => b = fg) W1 W' := by
    rw [hw]
    exact (Touch.refl (fun b => b = fg) W1).setCell _ _ (fun _ => rfl)
  have e : (vcs F.locs).length = 48 := by rw [vcs_length, h.ll]
  obtain ⟨D, m1, m2, m3⟩ := h.mp
  have hs1 := t.size
  have hs2 := t'.size
  have hbs := h.bs
  refine ⟨t', { h with blk := ?_, sl := hl, row := t'.row hrow (fun g o c e e2 => ?_), bs := by omega, mp := ⟨D, ownsMap_touch t' (ownsMap_touch t m1 h2) (fun e => h.ne e.symm), m2, m3⟩, so := hso }⟩
  · have hb := (h.blk.touch t h1).set (j := 49) (u := .slice A F.stk.length cap) (by rw [List.getElem?_append_right (by omega), e]; rfl) (.slice A' l.length cap')
    rw [List.set_append_right _ _ (by omega), e] at hb
    rw [hw]
    exact hb
  · have e2 : g = fg := e2
    have h9 : base ≤ g := (hrow.lt g (by rw [e]; rfl)).1
    have := h.b1
    omega

/-! Set -/
def SetTo (W : World) (base fg gm nm : Nat) (A : Option Addr) (cap : Nat) (F : Fr) (i : Nat) (v : V) (e : Ending) (W' : World) : Prop :=
  e = .returned (.bool true) ∧ Touch (fun b => b = fg) W W' ∧ FrAt W' base fg gm nm A cap { F with locs := F.locs.set i v }

theorem below_drew {n : Nat} {a w : World} (h : Below n a w) : Below n a w.drew := ⟨h.os, h.tape, h.output, h.size, h.block⟩
theorem SetTo.more {i : Nat} {v : V} {e : Ending} {W1 W2 : World} (h : SetTo W base fg gm nm A cap F i v e W1) (hb : Below W1.heap.size W1 W2) : SetTo W base fg gm nm A cap F i v e W2 := by
  obtain ⟨h1, h2, h3⟩ := h
  exact ⟨h1, h2.trans (Touch.of_below hb (Nat.le_refl _) _), h3.below hb⟩
theorem boxed (W : World) (v : V) : Blk (W.alloc (.cells #[.int .u8 v.1, .int .i64 v.2.1, .int .i64 v.2.2] 29)) W.heap.size (vc v) := Blk.new _ _ _
theorem set_yes (h : FrAt W base fg gm nm A cap F) {i : Nat} (hi : i < F.many) (hl : i < F.locs.length) (v : V) (hv : VOk v) (hk : F.locs[i].1 = v.1) :
    Calls Try.prog 51 #[.pointer (some ⟨fg, 0, none⟩), .int .i64 i, vagg v] W fun e W' => SetTo W base fg gm nm A cap F i v e W' := by
  have hb0 : Below W.heap.size W (W.alloc (.cells #[.int .u8 v.1, .int .i64 v.2.1, .int .i64 v.2.2] 29)) := (Below.refl _ _).alloc (Nat.le_refl _) _
  have h1 := h.below hb0
  have hbx := boxed W v
  have HG := Lib.hid (get_yes h1 hi hl)
  have hml := h.ml
  have hi16 : i < 16 := by omega
  have hs : fg < W.heap.size := h.blk.l
  have HFIN : Hid (∀ W', FrAt W' base fg gm nm A cap F → Touch (fun _ => False) W W' → SetTo W base fg gm nm A cap F i v (.returned (.bool true)) (((W'.setCell ⟨fg, i * 3, none⟩ (.int .u8 v.1)).setCell ⟨fg, i * 3 + 1, none⟩ (.int .i64 v.2.1)).setCell ⟨fg, i * 3 + 2, none⟩ (.int .i64 v.2.2))) := by
    apply Lib.hid
    intro W' h' t
    obtain ⟨t2, h2⟩ := h'.setLoc hi16 v hv rfl
    exact ⟨rfl, (t.mono (fun _ _ e => e.elim)).trans t2, h2⟩
  have HW2 : Hid (∀ w2, Below (W.alloc (.cells #[.int .u8 v.1, .int .i64 v.2.1, .int .i64 v.2.2] 29)).heap.size (W.alloc (.cells #[.int .u8 v.1, .int .i64 v.2.1, .int .i64 v.2.2] 29)) w2 → FrAt w2 base fg gm nm A cap F ∧ Touch (fun _ => False) W w2 ∧ Blk w2 W.heap.size (vc v)) :=
    Lib.hid (fun w2 hb => ⟨h1.below hb, (Touch.of_below hb0 (Nat.le_refl _) _).trans' (Touch.of_below hb (Nat.le_refl _) (fun _ => False)) (fun _ _ e => e), hbx.below hb⟩)
  obtain ⟨bx, hbxe⟩ : ∃ bx, W.heap.size = bx := ⟨_, rfl⟩
  obtain ⟨y0, y1, y2⟩ := v
  dsimp only at *
  unfold vagg at HG ⊢
  dsimp only at HG ⊢
  rw [hk] at HG
  have HK := Lib.hid hk
  clear hk hb0 h1 hbx h
  go_enter Try.func51, Try.ntmps51
  go_wp2_with fail
  refine HG.out.mono ?_
  rintro e w2 ⟨rfl, hb⟩
  obtain ⟨h2, t2, b2⟩ := HW2.out w2 hb
  rw [hbxe] at b2
  have d0 : w2.cell? ⟨bx, 0, none⟩ = some (.int .u8 y0) := b2.c 0 _ rfl
  have d1 : w2.cell? ⟨bx, 1, none⟩ = some (.int .i64 y1) := b2.c 1 _ rfl
  have d2 : w2.cell? ⟨bx, 2, none⟩ = some (.int .i64 y2) := b2.c 2 _ rfl
  have hl2 : bx < w2.heap.size := b2.l
  have hl3 : fg < w2.heap.size := h2.blk.l
  obtain ⟨hl4, e0, e1, e2⟩ := h2.cl hi16
  have f0 := h2.blk.f (i * 3)
  have f1 := h2.blk.f (i * 3 + 1)
  have f2 := h2.blk.f (i * 3 + 2)
  have H2 := Lib.hid h2
  have T2 := Lib.hid t2
  have n1 : ¬ fg = bx := by omega
  have i1 : (i : Int) < 16 := by omega
  rw [HK.out] at e0
  clear hb h2 t2 b2 HW2 HG
  generalize F.locs[i].2.1 = x1 at *
  generalize F.locs[i].2.2 = x2 at *
  go_wp2_with fail
  go_region
  go_wp2_with fail
  go_ret
  exact (HFIN.out _ H2.out T2.out).more (below_drew ((Below.refl _ _).alloc (Nat.le_refl _) _))

theorem set_no (h : FrAt W base fg gm nm A cap F) {i : Int} (v : V) (hn : (i < 0 ∨ (F.many : Int) ≤ i) ∨ ∃ j : Nat, i = j ∧ j < F.many ∧ ∃ hl : j < F.locs.length, F.locs[j].1 ≠ v.1) :
    Calls Try.prog 51 #[.pointer (some ⟨fg, 0, none⟩), .int .i64 i, vagg v] W fun e W' => e = .returned (.bool false) ∧ Below W.heap.size W W' := by
  have hb0 : Below W.heap.size W (W.alloc (.cells #[.int .u8 v.1, .int .i64 v.2.1, .int .i64 v.2.2] 29)) := (Below.refl _ _).alloc (Nat.le_refl _) _
  have h1 := h.below hb0
  have hbx := boxed W v
  have hB : Hid (∀ w2, Below (W.alloc (.cells #[.int .u8 v.1, .int .i64 v.2.1, .int .i64 v.2.2] 29)).heap.size (W.alloc (.cells #[.int .u8 v.1, .int .i64 v.2.1, .int .i64 v.2.2] 29)) w2 → Below W.heap.size W w2 ∧ Blk w2 W.heap.size (vc v)) :=
    Lib.hid (fun w2 hb => ⟨below_next hb0 hb, hbx.below hb⟩)
  rcases hn with hn | ⟨j, rfl, hj, hl, hk⟩
  · have HG := Lib.hid (get_no h1 hn)
    obtain ⟨y0, y1, y2⟩ := v
    dsimp only at *
    unfold vagg zv at HG
    unfold vagg
    dsimp only at HG ⊢
    clear hb0 h1 hbx h hn
    go_enter Try.func51, Try.ntmps51
    go_wp2_with fail
    refine HG.out.mono ?_
    rintro e w2 ⟨rfl, hb⟩
    obtain ⟨t2, b2⟩ := hB.out w2 hb
    clear hb b2 HG hB
    have T2 := Lib.hid t2
    clear t2
    go_wp2_with fail
    go_ret
    exact ⟨rfl, T2.out.alloc T2.out.size _⟩
  · have HG := Lib.hid (get_yes h1 hj hl)
    obtain ⟨bx, hbxe⟩ : ∃ bx, W.heap.size = bx := ⟨_, rfl⟩
    obtain ⟨y0, y1, y2⟩ := v
    dsimp only at *
    unfold vagg at HG ⊢
    dsimp only at HG ⊢
    generalize F.locs[j].1 = x0 at *
    generalize F.locs[j].2.1 = x1 at *
    generalize F.locs[j].2.2 = x2 at *
    have hne : (x0 == y0) = false := by rw [beq_eq_false_iff_ne]; exact hk
    clear hb0 h1 hbx h
    go_enter Try.func51, Try.ntmps51
    go_wp2_with fail
    refine HG.out.mono ?_
    rintro e w2 ⟨rfl, hb⟩
    obtain ⟨t2, b2⟩ := hB.out w2 hb
    rw [hbxe] at b2
    have d0 : w2.cell? ⟨bx, 0, none⟩ = some (.int .u8 y0) := b2.c 0 _ rfl
    have hl2 : bx < w2.heap.size := b2.l
    clear hb b2 HG hB
    have T2 := Lib.hid t2
    clear t2
    go_wp2_with fail
    go_ret
    exact ⟨rfl, T2.out.alloc T2.out.size _⟩

/-! Pop -/
theorem pop_no (h : FrAt W base fg gm nm A cap F) (k : Int) (hk0 : 0 ≤ k ∧ k ≤ 255) (hn : F.stk = [] ∨ ∃ l v, F.stk = l ++ [v] ∧ k ≠ 0 ∧ v.1 ≠ k) :
    Calls Try.prog 69 #[.pointer (some ⟨fg, 0, none⟩), .int .u8 k] W fun e W' => e = .returned (.tuple #[vagg zv, .bool false]) ∧ Below W.heap.size W W' := by
  have hb0 : Below W.heap.size W (W.alloc (.cells #[.int .u8 0, .int .i64 0, .int .i64 0] 29)) := (Below.refl _ _).alloc (Nat.le_refl _) _
  have h1 := h.below hb0
  have hB : Hid (∀ w2, Below (W.alloc (.cells #[.int .u8 0, .int .i64 0, .int .i64 0] 29)).heap.size (W.alloc (.cells #[.int .u8 0, .int .i64 0, .int .i64 0] 29)) w2 → Below W.heap.size W w2 ∧ Blk w2 W.heap.size (vc zv)) :=
    Lib.hid (fun w2 hb => ⟨below_next hb0 hb, (boxed W zv).below hb⟩)
  obtain ⟨bx, hbxe⟩ : ∃ bx, W.heap.size = bx := ⟨_, rfl⟩
  have hq : ∃ (x0 x1 x2 : Int) (b : Bool), (b = true → (k != 0) = true ∧ (x0 != k) = true) ∧ Calls Try.prog 79 #[.pointer (some ⟨fg, 0, none⟩)] (W.alloc (.cells #[.int .u8 0, .int .i64 0, .int .i64 0] 29)) fun e W' => e = .returned (.tuple #[.agg #[.int .u8 x0, .int .i64 x1, .int .i64 x2], .bool b]) ∧ Below (W.alloc (.cells #[.int .u8 0, .int .i64 0, .int .i64 0] 29)).heap.size (W.alloc (.cells #[.int .u8 0, .int .i64 0, .int .i64 0] 29)) W' := by
    rcases hn with hn | ⟨l, v, hs, hk, hv⟩
    · exact ⟨_, _, _, _, (fun e => by cases e), top_no h1 hn⟩
    · exact ⟨_, _, _, _, (fun _ => ⟨by rw [bne_iff_ne]; exact hk, by rw [bne_iff_ne]; exact hv⟩), top_yes h1 hs⟩
  obtain ⟨x0, x1, x2, b, hb, HT⟩ := hq
  have HT' := Lib.hid HT
  clear HT
  have HT := HT'
  clear HT'
  unfold vagg zv
  dsimp only
  clear hb0 h1 h hn
  cases b with
  | false =>
    clear hb
    go_enter Try.func69, Try.ntmps69
    go_wp2_with fail
    refine HT.out.mono ?_
    rintro e w2 ⟨rfl, hb⟩
    obtain ⟨t2, b2⟩ := hB.out w2 hb
    rw [hbxe] at b2
    have hl2 : bx < w2.heap.size := b2.l
    have d0 : w2.cell? ⟨bx, 0, none⟩ = some (.int .u8 0) := b2.c 0 _ rfl
    have d1 : w2.cell? ⟨bx, 1, none⟩ = some (.int .i64 0) := b2.c 1 _ rfl
    have d2 : w2.cell? ⟨bx, 2, none⟩ = some (.int .i64 0) := b2.c 2 _ rfl
    have f0 := b2.f 0
    have f1 := b2.f 1
    have f2 := b2.f 2
    have hwb : W.heap.size ≤ bx := by omega
    clear hb b2 HT hB
    have T2 := Lib.hid t2
    clear t2
    go_wp2_with fail
    refine bodyPost_ret (v := .tuple #[.agg #[.int .u8 0, .int .i64 0, .int .i64 0], .bool false]) (by simp [results, Try.results69, go_sem, *]) rfl ⟨rfl, ?_⟩
    exact (((T2.out.setCell (show W.heap.size ≤ bx from hwb) _).setCell (show W.heap.size ≤ bx from hwb) _).setCell (show W.heap.size ≤ bx from hwb) _).alloc (by simpa using T2.out.size) _
  | true =>
    obtain ⟨k1, k2⟩ := hb rfl
    clear hb
    go_enter Try.func69, Try.ntmps69
    go_wp2_with fail
    refine HT.out.mono ?_
    rintro e w2 ⟨rfl, hb⟩
    obtain ⟨t2, b2⟩ := hB.out w2 hb
    rw [hbxe] at b2
    have hl2 : bx < w2.heap.size := b2.l
    have d0 : w2.cell? ⟨bx, 0, none⟩ = some (.int .u8 0) := b2.c 0 _ rfl
    have d1 : w2.cell? ⟨bx, 1, none⟩ = some (.int .i64 0) := b2.c 1 _ rfl
    have d2 : w2.cell? ⟨bx, 2, none⟩ = some (.int .i64 0) := b2.c 2 _ rfl
    have f0 := b2.f 0
    have f1 := b2.f 1
    have f2 := b2.f 2
    have hwb : W.heap.size ≤ bx := by omega
    clear hb b2 HT hB
    have T2 := Lib.hid t2
    clear t2
    go_wp2_with fail
    refine bodyPost_ret (v := .tuple #[.agg #[.int .u8 0, .int .i64 0, .int .i64 0], .bool false]) (by simp [results, Try.results69, go_sem, *]) rfl ⟨rfl, ?_⟩
    exact (((T2.out.setCell (show W.heap.size ≤ bx from hwb) _).setCell (show W.heap.size ≤ bx from hwb) _).setCell (show W.heap.size ≤ bx from hwb) _).alloc (by simpa using T2.out.size) _

def Popped (W : World) (base fg gm nm : Nat) (A : Option Addr) (cap : Nat) (F : Fr) (l : List V) (v : V) (e : Ending) (W' : World) : Prop :=
  e = .returned (.tuple #[vagg v, .bool true]) ∧ Touch (fun b => b = fg) W W' ∧ FrAt W' base fg gm nm A cap { F with stk := l }

set_option maxHeartbeats 1000000 in
theorem pop_yes (h : FrAt W base fg gm nm A cap F) (k : Int) (hk0 : 0 ≤ k ∧ k ≤ 255) {l : List V} {v : V} (hs : F.stk = l ++ [v]) (hk : k = 0 ∨ v.1 = k) :
    Calls Try.prog 69 #[.pointer (some ⟨fg, 0, none⟩), .int .u8 k] W fun e W' => Popped W base fg gm nm A cap F l v e W' := by
  have hb0 : Below W.heap.size W (W.alloc (.cells #[.int .u8 0, .int .i64 0, .int .i64 0] 29)) := (Below.refl _ _).alloc (Nat.le_refl _) _
  have h1 := h.below hb0
  have hB : Hid (∀ w2, Below (W.alloc (.cells #[.int .u8 0, .int .i64 0, .int .i64 0] 29)).heap.size (W.alloc (.cells #[.int .u8 0, .int .i64 0, .int .i64 0] 29)) w2 → Below W.heap.size W w2 ∧ Blk w2 W.heap.size (vc zv) ∧ FrAt w2 base fg gm nm A cap F) :=
    Lib.hid (fun w2 hb => ⟨below_next hb0 hb, (boxed W zv).below hb, h1.below hb⟩)
  have HT := Lib.hid (top_yes h1 hs)
  have hfoot := h.foot
  obtain ⟨bx, hbxe⟩ : ∃ bx, W.heap.size = bx := ⟨_, rfl⟩
  have hlen : F.stk.length = l.length + 1 := by rw [hs]; simp
  have hsl := h.sl
  have HF : Hid (∀ w2 X, Touch (fun _ => False) W w2 → FrAt w2 base fg gm nm A cap F → Touch (fun b => b = bx) (w2.setCell ⟨fg, 49, none⟩ (.slice A l.length cap)) X → Popped W base fg gm nm A cap F l v (.returned (.tuple #[vagg v, .bool true])) X) := by
    apply Lib.hid
    intro w2 X t h2 tx
    have hr := h2.row
    have e3 : vcs F.stk = vcs l ++ vc v := by rw [hs, vcs_append]; rfl
    rw [e3, hlen] at hr
    obtain ⟨g, rfl, -⟩ := h2.stk (i := l.length) (by omega)
    have hr2 := ownsRow_pop (vcs_length l) hr
    obtain ⟨t3, h3⟩ := h2.restack (Touch.refl (fun _ => False) w2) (fun e => e) (fun e => e) (by omega) (fun u hu => h2.so u (by rw [hs]; exact List.mem_append_left _ hu)) hr2 rfl
    refine ⟨rfl, ?_, h3.touch tx (fun b hb e => by have := hfoot b hb; omega)⟩
    refine ((t.mono (fun _ _ e => e.elim)).trans t3).trans' tx (fun j hj e => by omega)
  obtain ⟨g, rfl, hgb, hgl, hcap, -⟩ := h.stk (i := l.length) (by omega)
  rw [hlen] at hcap
  have hcond : ((k != 0) = false) ∨ ((k != 0) = true ∧ (v.1 != k) = false) := by
    by_cases e : k = 0
    · exact .inl (by simp [e])
    · refine .inr ⟨by rw [bne_iff_ne]; exact e, by rcases hk with hk | hk; exact absurd hk e; simp [hk]⟩
  have hfgl := h.blk.l
  obtain ⟨x0, x1, x2⟩ := v
  unfold vagg at HT HF
  dsimp only at HT HF hcond
  generalize hq : l.length = q at *
  have q1 : (q : Int) ≤ 256 := by omega
  have q2 : (q : Int) ≤ (cap : Int) := by omega
  have q3 : q ≤ cap := by omega
  have HS := Lib.hid hs
  have HLEN := Lib.hid hlen
  have HQ := Lib.hid hq
  clear hb0 h1 h hs hk hlen hsl hcap hfoot hq
  rcases hcond with hcond | ⟨hcond, hcond2⟩
  all_goals
    go_enter Try.func69, Try.ntmps69
    go_wp2_with fail
    refine HT.out.mono ?_
    rintro e w2 ⟨rfl, hb⟩
    obtain ⟨t2, b2, h2⟩ := hB.out w2 hb
    rw [hbxe] at b2
    have hl2 : bx < w2.heap.size := b2.l
    have d0 : w2.cell? ⟨bx, 0, none⟩ = some (.int .u8 0) := b2.c 0 _ rfl
    have d1 : w2.cell? ⟨bx, 1, none⟩ = some (.int .i64 0) := b2.c 1 _ rfl
    have d2 : w2.cell? ⟨bx, 2, none⟩ = some (.int .i64 0) := b2.c 2 _ rfl
    have f0 := b2.f 0
    have f1 := b2.f 1
    have f2 := b2.f 2
    have c49 := h2.c49
    rw [HLEN.out] at c49
    have f49 := h2.blk.f 49
    have hl3 := h2.blk.l
    have hne : ¬ fg = bx := by omega
    have hne2 : ¬ bx = fg := by omega
    have hwb : W.heap.size ≤ bx := by omega
    clear hb b2 HT hB hbxe
    have T2 := Lib.hid (Touch.of_below t2 (Nat.le_refl _) (fun _ => False))
    have H2 := Lib.hid h2
    clear t2 h2
    go_wp2_with fail
    go_region
    go_wp2_with fail
    refine bodyPost_ret (v := .tuple #[.agg #[.int .u8 x0, .int .i64 x1, .int .i64 x2], .bool true]) (by simp [results, Try.results69, go_sem, *]) rfl ?_
    refine HF.out w2 _ T2.out H2.out ?_
    exact (((((Touch.refl (fun b => b = bx) _).setCell _ _ (fun _ => rfl)).setCell _ _ (fun _ => rfl)).setCell _ _ (fun _ => rfl)).alloc _).drew

/-! Push -/
theorem info37 : (Try.prog.info? 29).map (fun i => (i.zero, i.size, i.bytes)) = some (some (.agg #[.int .u8 0, .int .i64 0, .int .i64 0]), 3, 24) := by kernel_rfl
theorem fr_parts {i? : Option TypeInfo} {z : Value} {s b : Nat} (h : i?.map (fun i => (i.zero, i.size, i.bytes)) = some (some z, s, b)) : ∃ i, i? = some i ∧ i.zero = some z ∧ i.size = s ∧ i.bytes = b := by
  cases i? with
  | none => cases h
  | some i => simp at h; exact ⟨i, rfl, h⟩
def PushedTo (W : World) (base fg gm nm : Nat) (A : Option Addr) (cap : Nat) (F : Fr) (v : V) (e : Ending) (W' : World) : Prop :=
  ∃ A' cap', e = .returned (.bool true) ∧ Touch (fun b => b = fg ∨ ∃ a : Addr, A = some a ∧ b = a.block) W W' ∧ (∀ a : Addr, A' = some a → W.heap.size ≤ a.block ∨ ∃ a0 : Addr, A = some a0 ∧ a.block = a0.block) ∧ FrAt W' base fg gm nm A' cap' { F with stk := F.stk ++ [v] }

theorem push_no (h : FrAt W base fg gm nm A cap F) (v : V) (hv : VOk v) (hn : kindB v.1 = false ∨ 256 ≤ F.many + F.stk.length) :
    Calls Try.prog 62 #[.pointer (some ⟨fg, 0, none⟩), vagg v] W fun e W' => e = .returned (.bool false) ∧ Below W.heap.size W W' := by
  have hb0 : Below W.heap.size W (W.alloc (.cells #[.int .u8 v.1, .int .i64 v.2.1, .int .i64 v.2.2] 29)) := (Below.refl _ _).alloc (Nat.le_refl _) _
  have h1 := h.below hb0
  have hc := h.c51
  have hlt := h.blk.l
  have HN := Lib.hid (none_al fg gm W (.cells #[.int .u8 v.1, .int .i64 v.2.1, .int .i64 v.2.2] 29) hlt hc)
  have HK := Lib.hid (fun W => kind_any v.1 W hv.1.1 hv.1.2)
  have HZ := Lib.hid (size_at h1)
  obtain ⟨y0, y1, y2⟩ := v
  unfold vagg
  dsimp only at *
  by_cases hk : kindB y0 = false
  · rw [hk] at HK
    clear hn hv h h1 hk
    go_enter Try.func62, Try.ntmps62
    go_wp2_with fail
    refine HN.out.mono ?_
    rintro e w1 ⟨rfl, rfl⟩
    go_wp2_with fail
    refine (HK.out _).mono ?_
    rintro e w1 ⟨rfl, rfl⟩
    go_wp2_with fail
    go_ret
    exact ⟨rfl, hb0⟩
  · have hk2 : kindB y0 = true := by simpa using hk
    have hsz : 256 ≤ F.many + F.stk.length := by
      rcases hn with hn | hn
      · exact absurd hn hk
      · exact hn
    have hz : (256 : Int) ≤ (F.many : Int) + (F.stk.length : Int) := by omega
    rw [hk2] at HK
    generalize F.many = m at *
    generalize F.stk.length = n at *
    have HB0 := Lib.hid hb0
    clear hn hv h h1 hk hk2 hsz hb0
    go_enter Try.func62, Try.ntmps62
    go_wp2_with fail
    refine HN.out.mono ?_
    rintro e w1 ⟨rfl, rfl⟩
    go_wp2_with fail
    refine (HK.out _).mono ?_
    rintro e w1 ⟨rfl, rfl⟩
    go_wp2_with fail
    refine HZ.out.mono ?_
    rintro e w1 ⟨rfl, nk, rfl⟩
    go_wp2_with fail
    go_ret
    exact ⟨rfl, below_drewN HB0.out _⟩

theorem three_new (w : World) (a b c : Value) (t : TypeId) : ∀ j u, [a, b, c][j]? = some u → (w.alloc (.cells #[a, b, c] t)).cell? ((⟨w.heap.size, 0, none⟩ : Addr).add j) = some u := by
  intro j u hj
  match j, hj with
  | 0, hj => simp at hj; subst hj; simp [Addr.add]
  | 1, hj => simp at hj; subst hj; simp [Addr.add]
  | 2, hj => simp at hj; subst hj; simp [Addr.add]
  | j + 3, hj => simp at hj
theorem three_one (a b c : Int) : ∀ u ∈ [Value.int .u8 a, .int .i64 b, .int .i64 c], u.oneCell' = true := by
  intro u hu
  simp at hu
  rcases hu with rfl | rfl | rfl <;> rfl
theorem push_end (h : FrAt W base fg gm nm A cap F) (v : V) (hv : VOk v) (hn : F.many + F.stk.length < 256) {w' : World} {g' cap' : Nat}
    (hown : w'.ownsRow base 29 3 (.slice (some ⟨g', 0, none⟩) (F.stk.length + 1) cap') (F.stk.length + 1) (vcs F.stk ++ [.int .u8 v.1, .int .i64 v.2.1, .int .i64 v.2.2]))
    (ht : Touch (fun b => ∃ a : Addr, A = some a ∧ b = a.block) W w') (hor : (∃ a0 : Addr, A = some a0 ∧ g' = a0.block) ∨ W.heap.size ≤ g') :
    PushedTo W base fg gm nm A cap F v (.returned (.bool true)) (w'.setCell ⟨fg, 49, none⟩ (.slice (some ⟨g', 0, none⟩) (F.stk.length + 1) cap')) := by
  have hrow := h.rowBase
  have e1 : (F.stk ++ [v]).length = F.stk.length + 1 := by simp
  have e2 : vcs (F.stk ++ [v]) = vcs F.stk ++ [.int .u8 v.1, .int .i64 v.2.1, .int .i64 v.2.2] := by rw [vcs_append]; rfl
  rw [← e1, ← e2] at hown
  rw [← e1]
  obtain ⟨t2, h2⟩ := h.restack ht (by rintro ⟨a, e, e3⟩; have := (hrow a e).1; have := h.b1; omega) (by rintro ⟨a, e, e3⟩; have := (hrow a e).1; have := h.b2; omega) (by omega)
    (fun u hu => by rcases List.mem_append.1 hu with hu | hu; exact h.so u hu; rw [List.mem_singleton] at hu; rw [hu]; exact hv) hown rfl
  refine ⟨some ⟨g', 0, none⟩, cap', rfl, (ht.mono (fun _ _ e => .inr e)).trans (t2.mono (fun _ _ e => .inl e)), ?_, h2⟩
  intro a e
  injection e with e
  subst e
  rcases hor with ho | ho
  · exact .inr ho
  · exact .inl ho
theorem PushedTo.more {v : V} {e : Ending} {W1 W2 : World} (h : PushedTo W base fg gm nm A cap F v e W1) (hb : Below W1.heap.size W1 W2) : PushedTo W base fg gm nm A cap F v e W2 := by
  obtain ⟨A', cap', h1, h2, h3, h4⟩ := h
  exact ⟨A', cap', h1, h2.trans (Touch.of_below hb (Nat.le_refl _) _), h3, h4.below hb⟩

set_option maxRecDepth 100000 in
set_option maxHeartbeats 1000000 in
theorem push_yes (h : FrAt W base fg gm nm A cap F) (v : V) (hv : VOk v) (hk : kindB v.1 = true) (hn : F.many + F.stk.length < 256) :
    Calls Try.prog 62 #[.pointer (some ⟨fg, 0, none⟩), vagg v] W fun e W' => PushedTo W base fg gm nm A cap F v e W' := by
  obtain ⟨i37, hi, hz0, hz1, hz2⟩ := fr_parts info37
  have hb0 : Below W.heap.size W (W.alloc (.cells #[.int .u8 v.1, .int .i64 v.2.1, .int .i64 v.2.2] 29)) := (Below.refl _ _).alloc (Nat.le_refl _) _
  have h1 := h.below hb0
  have hc := h.c51
  have hlt := h.blk.l
  have hbx := boxed W v
  have HN := Lib.hid (none_al fg gm W (.cells #[.int .u8 v.1, .int .i64 v.2.1, .int .i64 v.2.2] 29) hlt hc)
  have HK := Lib.hid (fun W => kind_any v.1 W hv.1.1 hv.1.2)
  rw [hk] at HK
  have HZ := Lib.hid (size_at h1)
  have hz : (F.many : Int) + (F.stk.length : Int) < 256 := by omega
  have hz' : (0 : Int) ≤ (F.many : Int) + (F.stk.length : Int) := by omega
  have HPE := Lib.hid (fun w' g' cap' => push_end h v hv hn (w' := w') (g' := g') (cap' := cap'))
  have H := Lib.hid h
  have hrow := h.rowBase
  have HROW := Lib.hid hrow
  obtain ⟨y0, y1, y2⟩ := v
  unfold vagg
  dsimp only at *
  have HW : Hid (∀ nk, ∃ WR, ((W.alloc (.cells #[.int .u8 y0, .int .i64 y1, .int .i64 y2] 29)).drewN nk) = WR ∧ FrAt WR base fg gm nm A cap F ∧ Touch (fun _ => False) W WR ∧ Blk WR W.heap.size (vc (y0, y1, y2)) ∧ W.heap.size ≤ WR.heap.size) :=
    Lib.hid (fun nk => ⟨_, rfl, h1.touch ((Touch.refl (fun _ => False) _).drewN nk) (fun _ _ e => e), (Touch.of_below hb0 (Nat.le_refl _) _).drewN nk, hbx.drewN nk, hb0.size⟩)
  obtain ⟨bx, hbxe⟩ : ∃ bx, W.heap.size = bx := ⟨_, rfl⟩
  have hne : ¬ fg = bx := by omega
  have hsl := h.sl
  have hmn := h.ml
  generalize hm : F.many = m at *
  generalize hnn : F.stk.length = n at *
  have HNN := Lib.hid hnn
  have n1 : (n : Int) ≤ 256 := by omega
  have n2 : n ≤ 256 := by omega
  clear hb0 h1 hc hbx h hk hn hm hnn hrow hv hsl hmn
  go_enter Try.func62, Try.ntmps62
  go_wp2_with fail
  refine HN.out.mono ?_
  rintro e w1 ⟨rfl, rfl⟩
  go_wp2_with fail
  refine (HK.out _).mono ?_
  rintro e w1 ⟨rfl, rfl⟩
  go_wp2_with fail
  refine HZ.out.mono ?_
  rintro e w1 ⟨rfl, nk, rfl⟩
  obtain ⟨WR, hWR, h2, t2, b2, s2⟩ := HW.out nk
  rw [hWR]
  rw [hbxe] at b2 s2
  have d0 : WR.cell? ⟨bx, 0, none⟩ = some (.int .u8 y0) := b2.c 0 _ rfl
  have d1 : WR.cell? ⟨bx, 1, none⟩ = some (.int .i64 y1) := b2.c 1 _ rfl
  have d2 : WR.cell? ⟨bx, 2, none⟩ = some (.int .i64 y2) := b2.c 2 _ rfl
  have hl2 : bx < WR.heap.size := b2.l
  have c49 := h2.c49
  rw [HNN.out] at c49
  have f49 := h2.blk.f 49
  have hl3 := h2.blk.l
  have hbs := h2.bs
  have hrow2 := h2.row
  rw [HNN.out] at hrow2
  have hb1 := h2.b1
  have HR2 := Lib.hid hrow2
  have T2 := Lib.hid t2
  have C49 := Lib.hid c49
  have F49 := Lib.hid f49
  have hnm : n + 1 ≤ maxLen := by unfold maxLen; omega
  have hnb : (n + 1) * 24 ≤ 140737488355328 := by omega
  have HBX := Lib.hid hbxe
  clear hWR h2 t2 b2 HW HN HK HZ hrow2 hbxe
  go_wp2_with fail
  have hBW : Below WR.heap.size WR (WR.alloc (.cells #[.int .u8 y0, .int .i64 y1, .int .i64 y2] 29)).drew := below_drew ((Below.refl _ _).alloc (Nat.le_refl _) _)
  have CW := Lib.hid ((hBW.cell (p := ⟨fg, 49, none⟩) hl3).trans C49.out)
  have FW := Lib.hid ((hBW.frozen (p := ⟨fg, 49, none⟩) hl3).trans F49.out)
  have BW := Lib.hid hBW
  clear hBW
  go_region_law (refine step_append_own rfl (.tmp 22) (.tmp 24) 22 rfl base 29 i37 (.agg #[.int .u8 0, .int .i64 0, .int .i64 0]) 3 24 Try.underlying22 hi hz0 hz1 hz2 rfl (by decide) (.slice A n cap) n (vcs F.stk) (by simp [Act.eval, Act.put]) ((HR2.out.alloc _).drew) ⟨WR.heap.size, 0, none⟩ 1 1 [.int .u8 y0, .int .i64 y1, .int .i64 y2] (by simp [Act.eval, Act.put]) rfl (three_new WR (.int .u8 y0) (.int .i64 y1) (.int .i64 y2) 29) (three_one _ _ _) hnm hnb (by simp; omega) ?_; intro v' w' hown hgrow hor; obtain ⟨g', cap', rfl, hg1, hg2⟩ := World.ownsRow.form hown (by omega); have hfr : some fg ≠ (Value.slice A n cap).ownBlock := (by intro e; cases A with | none => cases e | some a => injection e with e; have := (HROW.out a rfl).1; omega); have hbl' := hgrow.block fg (by simp; omega) hfr; have hc' := (World.cell?_of_block (a := ⟨fg, 49, none⟩) hbl').trans CW.out; have hf' := (World.frozen?_of_block (a := ⟨fg, 49, none⟩) hbl').trans FW.out; have HOWN := Lib.hid hown; have HGROW := Lib.hid hgrow; have HOR := Lib.hid hor; clear hown hgrow hor hbl')
  all_goals
    go_wp2_with fail
    go_ret
    refine HPE.out w' g' cap' HOWN.out ?_ ?_
    · refine ((T2.out.mono (fun _ _ e => e.elim)).trans' (Touch.of_below BW.out (Nat.le_refl _) (fun b => ∃ a : Addr, A = some a ∧ b = a.block)) (fun _ _ e => e)).grown HGROW.out (fun k e _ => ?_)
      cases A with
      | none => cases e
      | some a => exact ⟨a, rfl, by injection e with e; exact e.symm⟩
    · have hs2 := BW.out.size
      rcases HOR.out with e | e
      · cases A with
        | none => cases e
        | some a => exact .inl ⟨a, rfl, by injection e⟩
      · have e : g' = (WR.alloc (.cells #[.int .u8 y0, .int .i64 y1, .int .i64 y2] 29)).drew.heap.size := by injection e
        have := HBX.out
        exact .inr (by omega)
end
end Go.Proofs.Ytkhgpeejmbfmjaa
/- Frames (package frame): New. -/
namespace Go.Proofs.Ytkhgpeejmbfmjaa
open Go.RowKit
set_option linter.unusedSimpArgs false
set_option linter.unusedVariables false
set_option maxRecDepth 100000

/-- Kinds in a slice. -/
def BytesAt (w : World) (A : Option Addr) (n : Nat) (ks : List Int) : Prop :=
  ks.length = n ∧ ∀ i (h : i < ks.length), ∃ g o, A = some ⟨g, o, none⟩ ∧ g < w.heap.size ∧ (0 ≤ ks[i] ∧ ks[i] ≤ 255) ∧ w.cell? ⟨g, o + i, none⟩ = some (.int .u8 ks[i])
/-- Values in a slice. -/
def VsAt (w : World) (A : Option Addr) (n : Nat) (vs : List V) : Prop :=
  vs.length = n ∧ ∀ i (h : i < vs.length), ∃ g o, A = some ⟨g, o, none⟩ ∧ g < w.heap.size ∧ VOk vs[i] ∧ w.cell? ⟨g, o + i * 3, none⟩ = some (.int .u8 vs[i].1) ∧ w.cell? ⟨g, o + i * 3 + 1, none⟩ = some (.int .i64 vs[i].2.1) ∧ w.cell? ⟨g, o + i * 3 + 2, none⟩ = some (.int .i64 vs[i].2.2)
theorem BytesAt.below {w w' : World} {A : Option Addr} {n : Nat} {ks : List Int} (h : BytesAt w A n ks) (hb : Below w.heap.size w w') : BytesAt w' A n ks :=
  ⟨h.1, fun i hi => by
    obtain ⟨g, o, e, hg, hk, hc⟩ := h.2 i hi
    exact ⟨g, o, e, Nat.lt_of_lt_of_le hg hb.size, hk, (hb.cell (p := ⟨g, _, none⟩) hg).trans hc⟩⟩
theorem VsAt.below {w w' : World} {A : Option Addr} {n : Nat} {vs : List V} (h : VsAt w A n vs) (hb : Below w.heap.size w w') : VsAt w' A n vs :=
  ⟨h.1, fun i hi => by
    obtain ⟨g, o, e, hg, hk, hc, hc1, hc2⟩ := h.2 i hi
    exact ⟨g, o, e, Nat.lt_of_lt_of_le hg hb.size, hk, (hb.cell (p := ⟨g, _, none⟩) hg).trans hc, (hb.cell (p := ⟨g, _, none⟩) hg).trans hc1, (hb.cell (p := ⟨g, _, none⟩) hg).trans hc2⟩⟩
theorem BytesAt.nil (w : World) (A : Option Addr) : BytesAt w A 0 [] := ⟨rfl, fun i h => absurd h (by simp)⟩
theorem VsAt.nil (w : World) (A : Option Addr) : VsAt w A 0 [] := ⟨rfl, fun i h => absurd h (by simp)⟩

def lz (k : Int) : V := (k, 0, 0)
theorem lz_ok {k : Int} (h : 0 ≤ k ∧ k ≤ 255) : VOk (lz k) := by
  refine ⟨h, ?_, ?_⟩
  · show I64 0
    exact ⟨by decide, by decide⟩
  · show I64 0
    exact ⟨by decide, by decide⟩
/-- May these be a frame's? -/
def NewOk (ks ls : List Int) (vs : List V) : Prop :=
  ks.length = vs.length ∧ ks.length + ls.length ≤ 16 ∧ (∀ i (h : i < ks.length) (h2 : i < vs.length), kindB ks[i] = true ∧ vs[i].1 = ks[i]) ∧ ∀ i (h : i < ls.length), kindB ls[i] = true
/-- The new frame. -/
def newFr (ks ls : List Int) (vs : List V) : Fr := ⟨vs ++ ls.map lz ++ List.replicate (16 - (ks.length + ls.length)) zv, ks.length + ls.length, [], 0, fun _ => 0⟩
def NewEnd (w : World) (ks ls : List Int) (vs : List V) (e : Ending) (w' : World) : Prop :=
  (NewOk ks ls vs ∧ ∃ base fg gm, e = .returned (.tuple #[.pointer (some ⟨fg, 0, none⟩), .int .i64 0]) ∧ Below w.heap.size w w' ∧ w.heap.size ≤ fg ∧ w.heap.size ≤ gm ∧ FrAt w' base fg gm 0 none 0 (newFr ks ls vs)) ∨
  (¬ NewOk ks ls vs ∧ e = .returned (.tuple #[.pointer none, .int .i64 2]) ∧ Below w.heap.size w w')

theorem rep_set (xs : List V) (m : Nat) (v : V) : (xs ++ List.replicate (m + 1) zv).set xs.length v = (xs ++ [v]) ++ List.replicate m zv := by
  rw [List.set_append_right _ _ (Nat.le_refl _), Nat.sub_self, List.replicate_succ, List.set_cons_zero, List.append_assoc]
  rfl

/-- The cells of a frame that New makes first. -/
def fresh (M : Int) (gm : Nat) : Array Value := #[Value.int .u8 0, .int .i64 0, .int .i64 0, .int .u8 0, .int .i64 0, .int .i64 0, .int .u8 0, .int .i64 0, .int .i64 0, .int .u8 0, .int .i64 0, .int .i64 0, .int .u8 0, .int .i64 0, .int .i64 0, .int .u8 0, .int .i64 0, .int .i64 0, .int .u8 0, .int .i64 0, .int .i64 0, .int .u8 0, .int .i64 0, .int .i64 0, .int .u8 0, .int .i64 0, .int .i64 0, .int .u8 0, .int .i64 0, .int .i64 0, .int .u8 0, .int .i64 0, .int .i64 0, .int .u8 0, .int .i64 0, .int .i64 0, .int .u8 0, .int .i64 0, .int .i64 0, .int .u8 0, .int .i64 0, .int .i64 0, .int .u8 0, .int .i64 0, .int .i64 0, .int .u8 0, .int .i64 0, .int .i64 0, .int .i64 M, .slice none 0 0, .int .i64 0, .map (some gm)]
theorem fresh_eq (M : Int) (gm : Nat) : (fresh M gm).toList = vcs (List.replicate 16 zv) ++ [.int .i64 M, .slice none 0 0, .int .i64 0, .map (some gm)] := rfl
theorem first_at (w : World) (M : Int) (m : Nat) (hM : M = m) (hm : m ≤ 16) : FrAt ((w.alloc (.map #[] 0)).alloc (.cells (fresh M w.heap.size) 84)) (w.heap.size + 2) (w.heap.size + 1) w.heap.size 0 none 0
    ⟨List.replicate 16 zv, m, [], 0, fun _ => 0⟩ := by
  subst hM
  have hb := Blk.new (w.alloc (.map #[] 0)) (fresh m w.heap.size) 84
  have hs : (w.alloc (.map #[] 0)).heap.size = w.heap.size + 1 := by simp
  rw [hs, fresh_eq] at hb
  refine ⟨hb, by simp, hm, by simp, World.ownsRow_nil _ _ _ _, ⟨.map [], ?_, Maps.isMap_empty, fun k => rfl⟩, fun k => by simp, ?_, by simp, by omega, by omega, by omega, by simp⟩
  · exact (World.ownsMap_made w Try.prog 3 _).alloc _
  · intro v hv
    have := List.eq_of_mem_replicate hv
    subst this
    exact ⟨⟨by decide, by decide⟩, ⟨by decide, by decide⟩, ⟨by decide, by decide⟩⟩

set_option maxRecDepth 100000 in
set_option maxHeartbeats 1000000 in
theorem new_short (w : World) (A0 A1 A2 : Option Addr) (n0 n1 n2 c0 c1 c2 : Nat) (h : n0 ≠ n2 ∨ 16 < n0 + n1) (b0 : n0 ≤ 100000) (b1 : n1 ≤ 100000) (b2 : n2 ≤ 100000) :
    Calls Try.prog 21 #[.slice A0 n0 c0, .slice A1 n1 c1, .slice A2 n2 c2] w fun e w' => e = .returned (.tuple #[.pointer none, .int .i64 2]) ∧ w' = w := by
  have k0 : (n0 : Int) ≤ 100000 := by omega
  have k1 : (n1 : Int) ≤ 100000 := by omega
  by_cases h1 : n0 = n2
  · subst h1
    by_cases h2 : 16 < n0
    · have h3 : (16 : Int) < (n0 : Int) := by omega
      clear h
      go_enter Try.func21, Try.ntmps21
      go_wp2_with fail
      go_ret2
      exact ⟨rfl, rfl⟩
    · have h3 : (n0 : Int) ≤ 16 := by omega
      have h4 : (16 : Int) - (n0 : Int) < (n1 : Int) := by omega
      clear h
      go_enter Try.func21, Try.ntmps21
      go_wp2_with fail
      go_ret2
      exact ⟨rfl, rfl⟩
  · have h3 : ((n0 : Int) != (n2 : Int)) = true := by rw [bne_iff_ne]; omega
    have h4 : (n0 != n2) = true := by rw [bne_iff_ne]; exact h1
    clear h
    go_enter Try.func21, Try.ntmps21
    go_wp2_with fail
    go_ret2
    exact ⟨rfl, rfl⟩
theorem first_world (w : World) (M : Int) : (w.alloc (.map #[] 0)).alloc (.cells (fresh M w.heap.size) 84) = (w.alloc (.map #[] 0)).alloc (.cells #[Value.int .u8 0, .int .i64 0, .int .i64 0, .int .u8 0, .int .i64 0, .int .i64 0, .int .u8 0, .int .i64 0, .int .i64 0, .int .u8 0, .int .i64 0, .int .i64 0, .int .u8 0, .int .i64 0, .int .i64 0, .int .u8 0, .int .i64 0, .int .i64 0, .int .u8 0, .int .i64 0, .int .i64 0, .int .u8 0, .int .i64 0, .int .i64 0, .int .u8 0, .int .i64 0, .int .i64 0, .int .u8 0, .int .i64 0, .int .i64 0, .int .u8 0, .int .i64 0, .int .i64 0, .int .u8 0, .int .i64 0, .int .i64 0, .int .u8 0, .int .i64 0, .int .i64 0, .int .u8 0, .int .i64 0, .int .i64 0, .int .u8 0, .int .i64 0, .int .i64 0, .int .u8 0, .int .i64 0, .int .i64 0, .int .i64 M, .slice none 0 0, .int .i64 0, .map (some w.heap.size)] 84) := rfl

theorem loc1 (vs : List V) {k : Nat} (hk : k < vs.length) (h : k < 16) : (vs.take k ++ List.replicate (16 - k) zv).set k vs[k] = vs.take (k + 1) ++ List.replicate (16 - (k + 1)) zv := by
  have e : 16 - k = (16 - (k + 1)) + 1 := by omega
  have hl : (vs.take k).length = k := by simp; omega
  have := rep_set (vs.take k) (16 - (k + 1)) vs[k]
  rw [hl] at this
  rw [e, this, List.take_succ_eq_append_getElem hk]
theorem loc2 (vs : List V) (ls : List Int) {k : Nat} (hk : k < ls.length) (h : vs.length + k < 16) : (vs ++ (ls.take k).map lz ++ List.replicate (16 - (vs.length + k)) zv).set (vs.length + k) (lz ls[k]) = vs ++ (ls.take (k + 1)).map lz ++ List.replicate (16 - (vs.length + (k + 1))) zv := by
  have e : 16 - (vs.length + k) = (16 - (vs.length + (k + 1))) + 1 := by omega
  have hl : (vs ++ (ls.take k).map lz).length = vs.length + k := by simp; omega
  have := rep_set (vs ++ (ls.take k).map lz) (16 - (vs.length + (k + 1))) (lz ls[k])
  rw [hl] at this
  rw [e, this, List.take_succ_eq_append_getElem hk, List.map_append, List.append_assoc, List.append_assoc]
  simp

set_option maxRecDepth 100000 in
set_option maxHeartbeats 4000000 in
theorem new_any (w : World) (A0 A1 A2 : Option Addr) (n0 n1 n2 c0 c1 c2 : Nat) (ks ls : List Int) (vs : List V) (hA0 : BytesAt w A0 n0 ks) (hA1 : BytesAt w A1 n1 ls) (hA2 : VsAt w A2 n2 vs) (b0 : n0 ≤ 100000) (b1 : n1 ≤ 100000) (b2 : n2 ≤ 100000) :
    Calls Try.prog 21 #[.slice A0 n0 c0, .slice A1 n1 c1, .slice A2 n2 c2] w fun e w' => NewEnd w ks ls vs e w' := by
  by_cases hsh : n0 ≠ n2 ∨ 16 < n0 + n1
  · refine (new_short w A0 A1 A2 n0 n1 n2 c0 c1 c2 hsh b0 b1 b2).mono ?_
    rintro e w' ⟨rfl, rfl⟩
    refine .inr ⟨fun h => ?_, rfl, Below.refl _ _⟩
    have := h.1
    have := h.2.1
    have := hA0.1
    have := hA1.1
    have := hA2.1
    omega
  obtain rfl : n0 = n2 := by omega
  have hm : n0 + n1 ≤ 16 := by omega
  have k0 : (n0 : Int) ≤ 16 := by omega
  have k1 : (n1 : Int) ≤ 16 - (n0 : Int) := by omega
  have k2 : (n0 : Int) + (n1 : Int) ≤ 16 := by omega
  have HF := Lib.hid (first_at w ((n0 : Int) + (n1 : Int)) (n0 + n1) (by omega) hm)
  have HB := Lib.hid (((Below.refl w.heap.size w).alloc (Nat.le_refl _) (.map #[] 0)).alloc (by simp) (.cells (fresh ((n0 : Int) + (n1 : Int)) w.heap.size) 84))
  have HA0 := Lib.hid hA0
  have HA1 := Lib.hid hA1
  have HA2 := Lib.hid hA2
  clear hA0 hA1 hA2 hsh
  have hmm := @run_makeMap Try.prog
  go_enter Try.func21, Try.ntmps21
  go_wp2_with fail
  rw [← first_world w _]
  obtain ⟨W1, hW1⟩ : ∃ W1, (w.alloc (.map #[] 0)).alloc (.cells (fresh ((n0 : Int) + (n1 : Int)) w.heap.size) 84) = W1 := ⟨_, rfl⟩
  rw [hW1] at HF HB ⊢
  obtain ⟨gm, hgm⟩ : ∃ gm, w.heap.size = gm := ⟨_, rfl⟩
  obtain ⟨fg, hfg⟩ : ∃ fg, gm + 1 = fg := ⟨_, rfl⟩
  rw [hgm] at HF HB
  rw [hfg] at HF
  rw [hgm, hfg]
  have HGM := Lib.hid hgm
  have HFG := Lib.hid hfg
  clear hW1 hgm hfg
  go_loopw [41] (fun i wr => ∃ k : Nat, k ≤ n0 ∧ i = .int .i64 k ∧ Below gm w wr ∧ FrAt wr (gm + 2) fg gm 0 none 0 ⟨vs.take k ++ List.replicate (16 - k) zv, n0 + n1, [], 0, fun _ => 0⟩ ∧ ∀ i (h : i < ks.length) (h2 : i < vs.length), i < k → kindB ks[i] = true ∧ vs[i].1 = ks[i]) (fun i _ => n0 - (intOf i).toNat)
  case atStart => exact ⟨0, by omega, rfl, HB.out, by simpa using HF.out, fun i _ _ h => absurd h (by omega)⟩
  case round =>
    obtain ⟨k, hk, rfl, hbw, hfr, hch⟩ := hrel
    by_cases hlt : k < n0
    · have hkl : k < ks.length := by rw [HA0.out.1]; exact hlt
      have hvl : k < vs.length := by rw [HA2.out.1]; exact hlt
      obtain ⟨ga, oa, rfl, hga, hka, ca⟩ := HA0.out.2 k hkl
      obtain ⟨gv, ov, rfl, hgv, hvok, cv0, cv1, cv2⟩ := HA2.out.2 k hvl
      rw [HGM.out] at hga hgv
      have da := (hbw.cell (p := ⟨ga, oa + k, none⟩) hga).trans ca
      have dv0 := (hbw.cell (p := ⟨gv, ov + k * 3, none⟩) hgv).trans cv0
      have dv1 := (hbw.cell (p := ⟨gv, ov + k * 3 + 1, none⟩) hgv).trans cv1
      have dv2 := (hbw.cell (p := ⟨gv, ov + k * 3 + 2, none⟩) hgv).trans cv2
      clear ca cv0 cv1 cv2
      have hk16 : k < 16 := by omega
      have HSET := Lib.hid (hfr.setLoc hk16 vs[k] hvok rfl)
      have HKIND := Lib.hid (fun W => kind_any ks[k] W hka.1 hka.2)
      obtain ⟨-, e0, e1, e2⟩ : True ∧ (∃ x, wr.cell? ⟨fg, k * 3, none⟩ = some x) ∧ (∃ x, wr.cell? ⟨fg, k * 3 + 1, none⟩ = some x) ∧ (∃ x, wr.cell? ⟨fg, k * 3 + 2, none⟩ = some x) := by
        obtain ⟨_, e0, e1, e2⟩ := hfr.cl hk16
        exact ⟨trivial, ⟨_, e0⟩, ⟨_, e1⟩, ⟨_, e2⟩⟩
      obtain ⟨z0, e0⟩ := e0
      obtain ⟨z1, e1⟩ := e1
      obtain ⟨z2, e2⟩ := e2
      have f0 := hfr.blk.f (k * 3)
      have f1 := hfr.blk.f (k * 3 + 1)
      have f2 := hfr.blk.f (k * 3 + 2)
      have hfl := hfr.blk.l
      have HBW := Lib.hid hbw
      have HCH := Lib.hid hch
      have hne : ¬ gv = fg := by have := HFG.out; omega
      have hne2 : ¬ fg = gv := fun e => hne e.symm
      have HREL : Hid (vs[k].1 = ks[k] → kindB ks[k] = true → ∀ i (h : i < ks.length) (h2 : i < vs.length), i < k + 1 → kindB ks[i] = true ∧ vs[i].1 = ks[i]) := by
        apply Lib.hid
        intro a b i h h2 h3
        rcases Nat.lt_or_ge i k with h4 | h4
        · exact hch i h h2 h4
        · obtain rfl : i = k := by omega
          exact ⟨b, a⟩
      have HBAD : Hid (¬ (kindB ks[k] = true ∧ vs[k].1 = ks[k]) → ¬ NewOk ks ls vs) := Lib.hid (fun h h2 => h (h2.2.2.1 k hkl hvl))
      have hk1 : (k : Int) < (n0 : Int) := by omega
      have hk2 : (k : Int) < 16 := by omega
      clear hbw hfr hch hvok HF HB
      generalize hkk : ks[k] = κ at *
      generalize hv0 : vs[k].1 = x0 at *
      generalize hv1 : vs[k].2.1 = x1 at *
      generalize hv2 : vs[k].2.2 = x2 at *
      clear hkk hv0 hv1 hv2
      by_cases hkb : kindB κ = true
      · rw [hkb] at HKIND
        by_cases hx : x0 = κ
        · have hxb : (x0 != κ) = false := by simp [hx]
          have HX := Lib.hid hx
          have HKB := Lib.hid hkb
          clear hx hkb HBAD
          go_wp2_with fail
          refine (HKIND.out _).mono ?_
          rintro e w3 ⟨rfl, rfl⟩
          go_wp2_with fail
          go_region
          go_wp2_with fail
          go_roundw
          case rel =>
            refine ⟨k + 1, by omega, by go_num, below_drew (((HBW.out.setCell (by show gm ≤ fg; have := HFG.out; omega) _).setCell (by show gm ≤ fg; have := HFG.out; omega) _).setCell (by show gm ≤ fg; have := HFG.out; omega) _), ?_, HREL.out HX.out HKB.out⟩
            have h2 := HSET.out.2
            rw [loc1 vs hvl hk16] at h2
            exact h2.below (below_drew (Below.refl _ _))
          case measure => simp [intOf]; omega
        · have hxb : (x0 != κ) = true := by rw [bne_iff_ne]; exact hx
          have hbad := HBAD.out (fun h => hx h.2)
          have HBD := Lib.hid hbad
          clear hx hbad HREL
          go_wp2_with fail
          refine (HKIND.out _).mono ?_
          rintro e w3 ⟨rfl, rfl⟩
          go_wp2_with fail
          go_ret2
          exact .inr ⟨HBD.out, rfl, HGM.out ▸ HBW.out⟩
      · have hkb2 : kindB κ = false := by simpa using hkb
        have hbad := HBAD.out (fun h => hkb h.1)
        have HBD := Lib.hid hbad
        rw [hkb2] at HKIND
        clear hkb hkb2 hbad HREL HBAD
        go_wp2_with fail
        refine (HKIND.out _).mono ?_
        rintro e w3 ⟨rfl, rfl⟩
        go_wp2_with fail
        go_ret2
        exact .inr ⟨HBD.out, rfl, HGM.out ▸ HBW.out⟩
    · have hkn : n0 = k := by omega
      subst hkn
      have hkl := HA0.out.1
      have hvl := HA2.out.1
      have hll := HA1.out.1
      have hch' : ∀ i (h : i < ks.length) (h2 : i < vs.length), kindB ks[i] = true ∧ vs[i].1 = ks[i] := fun i h h2 => hch i h h2 (by omega)
      have hfr2 : FrAt wr (gm + 2) fg gm 0 none 0 ⟨vs ++ (ls.take 0).map lz ++ List.replicate (16 - (vs.length + 0)) zv, n0 + n1, [], 0, fun _ => 0⟩ := by
        rw [List.take_of_length_le (by omega)] at hfr
        simpa [hvl] using hfr
      have HC1 := Lib.hid hch'
      have HFR2 := Lib.hid hfr2
      have HBW := Lib.hid hbw
      have HLEN := Lib.hid (And.intro hkl (And.intro hvl hll))
      clear HF HB hch hch' hfr hfr2 hbw hkl hvl hll
      go_wp2_with fail
      go_loopw [70] (fun i wr => ∃ j : Nat, j ≤ n1 ∧ i = .int .i64 j ∧ Below gm w wr ∧ FrAt wr (gm + 2) fg gm 0 none 0 ⟨vs ++ (ls.take j).map lz ++ List.replicate (16 - (vs.length + j)) zv, n0 + n1, [], 0, fun _ => 0⟩ ∧ ∀ i (h : i < ls.length), i < j → kindB ls[i] = true) (fun i _ => n1 - (intOf i).toNat)
      case atStart => exact ⟨0, by omega, rfl, HBW.out, HFR2.out, fun i _ h => absurd h (by omega)⟩
      case round =>
        clear HFR2 HBW
        obtain ⟨j, hj, rfl, hbw, hfr, hch⟩ := hrel
        by_cases hlt2 : j < n1
        · have hjl : j < ls.length := by rw [HA1.out.1]; exact hlt2
          obtain ⟨ga, oa, rfl, hga, hka, ca⟩ := HA1.out.2 j hjl
          rw [HGM.out] at hga
          have da := (hbw.cell (p := ⟨ga, oa + j, none⟩) hga).trans ca
          clear ca
          have hk16 : n0 + j < 16 := by omega
          have HSET := Lib.hid (hfr.setLoc hk16 (lz ls[j]) (lz_ok hka) rfl)
          have HKIND := Lib.hid (fun W => kind_any ls[j] W hka.1 hka.2)
          obtain ⟨-, e0, e1, e2⟩ : True ∧ (∃ x, wr.cell? ⟨fg, (n0 + j) * 3, none⟩ = some x) ∧ (∃ x, wr.cell? ⟨fg, (n0 + j) * 3 + 1, none⟩ = some x) ∧ (∃ x, wr.cell? ⟨fg, (n0 + j) * 3 + 2, none⟩ = some x) := by
            obtain ⟨_, e0, e1, e2⟩ := hfr.cl hk16
            exact ⟨trivial, ⟨_, e0⟩, ⟨_, e1⟩, ⟨_, e2⟩⟩
          obtain ⟨z0, e0⟩ := e0
          obtain ⟨z1, e1⟩ := e1
          obtain ⟨z2, e2⟩ := e2
          have f0 := hfr.blk.f ((n0 + j) * 3)
          have f1 := hfr.blk.f ((n0 + j) * 3 + 1)
          have f2 := hfr.blk.f ((n0 + j) * 3 + 2)
          have hfl := hfr.blk.l
          have HBW := Lib.hid hbw
          have HREL : Hid (kindB ls[j] = true → ∀ i (h : i < ls.length), i < j + 1 → kindB ls[i] = true) := by
            apply Lib.hid
            intro a i h h3
            rcases Nat.lt_or_ge i j with h4 | h4
            · exact hch i h h4
            · obtain rfl : i = j := by omega
              exact a
          have HBAD : Hid (¬ (kindB ls[j] = true) → ¬ NewOk ks ls vs) := Lib.hid (fun h h2 => h (h2.2.2.2 j hjl))
          have hk1 : (j : Int) < (n1 : Int) := by omega
          have hk2 : (n0 : Int) + (j : Int) < 16 := by omega
          have hk3 : ((n0 : Int) + (j : Int)).toNat = n0 + j := by omega
          have HL2 := Lib.hid (loc2 vs ls hjl (by rw [HLEN.out.2.1]; exact hk16))
          clear hbw hfr hch
          unfold lz at HSET
          dsimp only at HSET
          generalize hkk : ls[j] = κ at *
          clear hkk
          by_cases hkb : kindB κ = true
          · have HKB := Lib.hid hkb
            rw [hkb] at HKIND
            clear hkb HBAD
            go_wp2_with fail
            refine (HKIND.out _).mono ?_
            rintro e w3 ⟨rfl, rfl⟩
            go_wp2_with fail
            go_roundw
            case rel =>
              refine ⟨j + 1, by omega, by go_num, ((HBW.out.setCell (by show gm ≤ fg; have := HFG.out; omega) _).setCell (by show gm ≤ fg; have := HFG.out; omega) _).setCell (by show gm ≤ fg; have := HFG.out; omega) _, ?_, HREL.out HKB.out⟩
              have h2 := HSET.out.2
              have h3 := HL2.out
              rw [HLEN.out.2.1] at h3
              rw [HLEN.out.2.1] at h2 ⊢
              rw [← h3]
              exact h2
            case measure => simp [intOf]; omega
          · have hkb2 : kindB κ = false := by simpa using hkb
            have hbad := HBAD.out hkb
            have HBD := Lib.hid hbad
            rw [hkb2] at HKIND
            clear hkb hkb2 hbad HREL HBAD
            go_wp2_with fail
            refine (HKIND.out _).mono ?_
            rintro e w3 ⟨rfl, rfl⟩
            go_wp2_with fail
            go_ret2
            exact .inr ⟨HBD.out, rfl, HGM.out ▸ HBW.out⟩
        · have hjn : n1 = j := by omega
          subst hjn
          have HFR := Lib.hid hfr
          have HBW := Lib.hid hbw
          have HC2 := Lib.hid hch
          clear hfr hbw hch
          go_wp2_with fail
          go_ret2
          obtain ⟨l1, l2, l3⟩ := HLEN.out
          refine .inl ⟨⟨by omega, by omega, HC1.out, fun i h => HC2.out i h (by omega)⟩, gm + 2, fg, gm, rfl, HGM.out ▸ HBW.out, by have := HGM.out; have := HFG.out; omega, by have := HGM.out; omega, ?_⟩
          have hfr := HFR.out
          unfold newFr
          rw [List.take_of_length_le (by omega)] at hfr
          rw [l1, l3]
          rw [l2] at hfr
          exact hfr

end Go.Proofs.Ytkhgpeejmbfmjaa
/- Frames (package frame): one contract for each function: what a frame answers, and what it is then, by plain functions. -/
namespace Go.Proofs.Ytkhgpeejmbfmjaa
open Go.RowKit
set_option linter.unusedSimpArgs false
set_option linter.unusedVariables false
set_option maxRecDepth 100000

/-! The plain functions. -/
def getB (F : Fr) (i : Int) : Bool := decide (0 ≤ i ∧ i < F.many)
def getV (F : Fr) (i : Int) : V := if getB F i then F.locs[i.toNat]?.getD zv else zv
def setB (F : Fr) (i : Int) (v : V) : Bool := getB F i && decide ((getV F i).1 = v.1)
def setF (F : Fr) (i : Int) (v : V) : Fr := if setB F i v then { F with locs := F.locs.set i.toNat v } else F
def pushB (F : Fr) (v : V) : Bool := kindB v.1 && decide (F.many + F.stk.length < 256)
def pushF (F : Fr) (v : V) : Fr := if pushB F v then { F with stk := F.stk ++ [v] } else F
def topB (F : Fr) : Bool := !F.stk.isEmpty
def topV (F : Fr) : V := F.stk.getLast?.getD zv
def popB (F : Fr) (k : Int) : Bool := topB F && decide (k = 0 ∨ (topV F).1 = k)
def popV (F : Fr) (k : Int) : V := if popB F k then topV F else zv
def popF (F : Fr) (k : Int) : Fr := if popB F k then { F with stk := F.stk.dropLast } else F
def begF (F : Fr) (l t : Int) : Fr := { F with turns := setT F.turns l t }
def agaF (F : Fr) (l : Int) : Fr := if F.turns l = 0 then F else begF F l (F.turns l - 1)
def goF (F : Fr) (p : Int) : Fr := { F with place := p }

/-- A frame made behind the world w; the blocks of K are others. -/
structure FO (w W : World) (fg c : Nat) (F : Fr) (K : Nat → Prop) : Prop where
  ex : ∃ base gm nm A cap, FrAt W base fg gm nm A cap F ∧ nm ≤ c ∧ w.heap.size ≤ gm ∧ ∀ b, K b → b < W.heap.size ∧ ¬ FF fg gm A b
  bw : Below w.heap.size w W
  g1 : w.heap.size ≤ fg
/-- .. still there behind a call that leaves K's blocks alone. -/
def FOk (w W : World) (fg c : Nat) (F : Fr) (K : Nat → Prop) (W' : World) : Prop := FO w W' fg c F K ∧ Touch (fun b => ¬ K b) W W'

section
variable {w W : World} {fg c : Nat} {F : Fr} {K : Nat → Prop}
theorem FO.below (h : FO w W fg c F K) {W' : World} (hb : Below W.heap.size W W') : FO w W' fg c F K := by
  obtain ⟨⟨base, gm, nm, A, cap, h0, h1, h2, h3⟩, k1, k2⟩ := h
  exact ⟨⟨base, gm, nm, A, cap, h0.below hb, h1, h2, fun b hk => ⟨Nat.lt_of_lt_of_le (h3 b hk).1 hb.size, (h3 b hk).2⟩⟩, below_next k1 hb, k2⟩
theorem FO.ok (h : FO w W fg c F K) {W' : World} (hb : Below W.heap.size W W') : FOk w W fg c F K W' := ⟨h.below hb, Touch.of_below hb (Nat.le_refl _) _⟩
theorem FO.drew (h : FO w W fg c F K) : FO w W.drew fg c F K := h.below (below_drew (Below.refl _ _))
theorem FO.drewN (h : FO w W fg c F K) (k : Nat) : FO w (W.drewN k) fg c F K := h.below (below_drewN (Below.refl _ _) k)
theorem FO.mono (h : FO w W fg c F K) {c' : Nat} (hc : c ≤ c') : FO w W fg c' F K := by
  obtain ⟨⟨base, gm, nm, A, cap, h0, h1, h2⟩, k1, k2⟩ := h
  exact ⟨⟨base, gm, nm, A, cap, h0, Nat.le_trans h1 hc, h2⟩, k1, k2⟩
theorem FO.less (h : FO w W fg c F K) {K' : Nat → Prop} (hk : ∀ b, K' b → K b) : FO w W fg c F K' := by
  obtain ⟨⟨base, gm, nm, A, cap, h0, h1, h2, h3⟩, k1, k2⟩ := h
  exact ⟨⟨base, gm, nm, A, cap, h0, h1, h2, fun b hb => h3 b (hk b hb)⟩, k1, k2⟩
theorem FO.alloc (h : FO w W fg c F K) (o : Obj) : FO w (W.alloc o) fg c F (fun b => K b ∨ b = W.heap.size) := by
  have hb : Below W.heap.size W (W.alloc o) := (Below.refl _ _).alloc (Nat.le_refl _) o
  obtain ⟨⟨base, gm, nm, A, cap, h0, h1, h2, h3⟩, k1, k2⟩ := h
  refine ⟨⟨base, gm, nm, A, cap, h0.below hb, h1, h2, ?_⟩, below_next k1 hb, k2⟩
  rintro b (hk | rfl)
  · exact ⟨Nat.lt_of_lt_of_le (h3 b hk).1 hb.size, (h3 b hk).2⟩
  · exact ⟨by simp, fun e => by have := h0.foot _ e; omega⟩
/-- Other blocks have changed. -/
theorem FO.touch (h : FO w W fg c F K) {S : Nat → Prop} {W' : World} (t : Touch S W W') (hs : ∀ b, b < W.heap.size → S b → K b) (hw : ∀ b, S b → w.heap.size ≤ b) : FO w W' fg c F K := by
  obtain ⟨⟨base, gm, nm, A, cap, h0, h1, h2, h3⟩, k1, k2⟩ := h
  refine ⟨⟨base, gm, nm, A, cap, h0.touch t (fun b hb e => (h3 b (hs b (h0.foot b hb) e)).2 hb), h1, h2, fun b hk => ⟨Nat.lt_of_lt_of_le (h3 b hk).1 t.size, (h3 b hk).2⟩⟩, k1.trans (t.below k1.size hw), k2⟩
/-- A step of the frame. -/
theorem FO.step (h : FO w W fg c F K) {base gm nm : Nat} {A : Option Addr} {cap : Nat} (h0 : FrAt W base fg gm nm A cap F) (hg : w.heap.size ≤ gm) (hK : ∀ b, K b → b < W.heap.size ∧ ¬ FF fg gm A b) {S : Nat → Prop} {W' : World} (t : Touch S W W') (hS : ∀ b, S b → FF fg gm A b)
    {nm' c' : Nat} {A' : Option Addr} {cap' : Nat} {F' : Fr} (h1 : FrAt W' base fg gm nm' A' cap' F') (hc : nm' ≤ c') (hA : ∀ a : Addr, A' = some a → W.heap.size ≤ a.block ∨ ∃ a0 : Addr, A = some a0 ∧ a.block = a0.block) : FOk w W fg c' F' K W' := by
  have hf : ∀ b, b < W.heap.size → FF fg gm A' b → FF fg gm A b := by
    rintro b hb (e | e | ⟨a, e, rfl⟩)
    · exact .inl e
    · exact .inr (.inl e)
    · rcases hA a e with h2 | ⟨a0, e2, e3⟩
      · omega
      · exact .inr (.inr ⟨a0, e2, e3⟩)
  refine ⟨⟨⟨base, gm, nm', A', cap', h1, hc, hg, fun b hk => ⟨Nat.lt_of_lt_of_le (hK b hk).1 t.size, fun e => (hK b hk).2 (hf b (hK b hk).1 e)⟩⟩, h.bw.trans (t.below h.bw.size ?_), h.g1⟩, t.mono (fun b _ e hk => (hK b hk).2 (hS b e))⟩
  intro b e
  rcases hS b e with rfl | rfl | ⟨a, ha, rfl⟩
  · exact h.g1
  · exact hg
  · have := (h0.rowBase a ha).1
    have := h0.b1
    have := h.g1
    omega
theorem FO.size (h : FO w W fg c F K) : F.many ≤ 16 ∧ F.stk.length ≤ 256 ∧ F.locs.length = 16 := by
  obtain ⟨base, gm, nm, A, cap, h0, -⟩ := h.ex
  exact ⟨h0.ml, h0.sl, h0.ll⟩
theorem FO.vals (h : FO w W fg c F K) : (∀ v ∈ F.locs, VOk v) ∧ ∀ v ∈ F.stk, VOk v := by
  obtain ⟨base, gm, nm, A, cap, h0, -⟩ := h.ex
  exact ⟨h0.vo, h0.so⟩

theorem fo_size (h : FO w W fg c F K) : Calls Try.prog 31 #[.pointer (some ⟨fg, 0, none⟩)] W fun e W' => e = .returned (.int .i64 ((F.many : Int) + (F.stk.length : Int))) ∧ ∃ k, W' = W.drewN k := by
  obtain ⟨base, gm, nm, A, cap, h0, -⟩ := h.ex
  exact size_at h0
theorem fo_place (h : FO w W fg c F K) : Calls Try.prog 23 #[.pointer (some ⟨fg, 0, none⟩)] W fun e W' => e = .returned (.int .i64 F.place) ∧ W' = W := by
  obtain ⟨base, gm, nm, A, cap, h0, -⟩ := h.ex
  exact place_at h0
theorem fo_go (h : FO w W fg c F K) (p : Int) : Calls Try.prog 24 #[.pointer (some ⟨fg, 0, none⟩), .int .i64 p] W fun e W' => e = .returned (.tuple #[]) ∧ FOk w W fg c (goF F p) K W' := by
  obtain ⟨base, gm, nm, A, cap, h0, h1, h2, h3⟩ := h.ex
  refine (go_at h0 p).mono ?_
  rintro e W' ⟨rfl, hw⟩
  obtain ⟨t, h4⟩ := h0.setPlace p hw
  exact ⟨rfl, h.step h0 h2 h3 t (fun b e => .inl e) h4 h1 (fun a e => .inr ⟨a, e, rfl⟩)⟩
theorem fo_begin (h : FO w W fg c F K) (l t : Int) (hl : I64 l) (ht : I64 t) (hc : c < 1000000) :
    Calls Try.prog 71 #[.pointer (some ⟨fg, 0, none⟩), .int .i64 l, .int .i64 t] W fun e W' => e = .returned (.tuple #[]) ∧ FOk w W fg (c + 1) (begF F l t) K W' := by
  obtain ⟨base, gm, nm, A, cap, h0, h1, h2, h3⟩ := h.ex
  refine (begin_at h0 l t hl ht (by omega)).mono ?_
  rintro e W' ⟨rfl, ht, h4⟩
  exact ⟨rfl, h.step h0 h2 h3 ht (fun b e => .inr (.inl e)) h4 (by omega) (fun a e => .inr ⟨a, e, rfl⟩)⟩
theorem fo_again (h : FO w W fg c F K) (l : Int) (hl : I64 l) (hc : c < 1000000) :
    Calls Try.prog 72 #[.pointer (some ⟨fg, 0, none⟩), .int .i64 l] W fun e W' => e = .returned (.tuple #[.bool (decide (1 < F.turns l)), .bool (decide (0 < F.turns l))]) ∧ FOk w W fg (c + 1) (agaF F l) K W' := by
  obtain ⟨base, gm, nm, A, cap, h0, h1, h2, h3⟩ := h.ex
  have htw := h0.tw l
  by_cases e0 : F.turns l = 0
  · refine (again_no h0 l hl e0).mono ?_
    rintro e W' ⟨rfl, rfl⟩
    have : agaF F l = F := by unfold agaF; rw [if_pos e0]
    rw [this, e0]
    exact ⟨rfl, (h.mono (by omega)).ok (Below.refl _ _)⟩
  · refine (again_yes h0 l hl e0 (by omega)).mono ?_
    rintro e W' ⟨rfl, ht, h4⟩
    have : agaF F l = begF F l (F.turns l - 1) := by unfold agaF; rw [if_neg e0]
    rw [this, decide_eq_true (show 0 < F.turns l by omega)]
    exact ⟨rfl, h.step h0 h2 h3 ht (fun b e => .inr (.inl e)) h4 (by omega) (fun a e => .inr ⟨a, e, rfl⟩)⟩
theorem fo_get (h : FO w W fg c F K) (i : Int) : Calls Try.prog 50 #[.pointer (some ⟨fg, 0, none⟩), .int .i64 i] W fun e W' => e = .returned (.tuple #[vagg (getV F i), .bool (getB F i)]) ∧ Below W.heap.size W W' := by
  obtain ⟨base, gm, nm, A, cap, h0, -⟩ := h.ex
  by_cases hi : 0 ≤ i ∧ i < F.many
  · obtain ⟨k, rfl⟩ := Int.eq_ofNat_of_zero_le hi.1
    have hk : k < F.locs.length := by rw [h0.ll]; have := h0.ml; omega
    have e1 : getB F k = true := decide_eq_true hi
    have e2 : getV F k = F.locs[k] := by unfold getV; rw [e1, if_pos rfl, Int.toNat_natCast, List.getElem?_eq_getElem hk, Option.getD_some]
    rw [e1, e2]
    exact get_yes h0 (by omega) hk
  · have e1 : getB F i = false := decide_eq_false hi
    have e2 : getV F i = zv := by unfold getV; rw [e1]; rfl
    rw [e1, e2]
    exact get_no h0 (by omega)
theorem fo_set (h : FO w W fg c F K) (i : Int) (v : V) (hv : VOk v) : Calls Try.prog 51 #[.pointer (some ⟨fg, 0, none⟩), .int .i64 i, vagg v] W fun e W' => e = .returned (.bool (setB F i v)) ∧ FOk w W fg c (setF F i v) K W' := by
  obtain ⟨base, gm, nm, A, cap, h0, h1, h2, h3⟩ := h.ex
  by_cases hi : 0 ≤ i ∧ i < F.many
  · obtain ⟨k, rfl⟩ := Int.eq_ofNat_of_zero_le hi.1
    have hk : k < F.locs.length := by rw [h0.ll]; have := h0.ml; omega
    have e1 : getB F k = true := decide_eq_true hi
    have e2 : getV F k = F.locs[k] := by unfold getV; rw [e1, if_pos rfl, Int.toNat_natCast, List.getElem?_eq_getElem hk, Option.getD_some]
    by_cases hkd : F.locs[k].1 = v.1
    · have e3 : setB F k v = true := by unfold setB; rw [e1, e2, decide_eq_true hkd]; rfl
      have e4 : setF F k v = { F with locs := F.locs.set k v } := by unfold setF; rw [e3, if_pos rfl, Int.toNat_natCast]
      rw [e3, e4]
      refine (set_yes h0 (by omega) hk v hv hkd).mono ?_
      rintro e W' ⟨rfl, ht, h4⟩
      exact ⟨rfl, h.step h0 h2 h3 ht (fun b e => .inl e) h4 h1 (fun a e => .inr ⟨a, e, rfl⟩)⟩
    · have e3 : setB F k v = false := by unfold setB; rw [e1, e2, decide_eq_false hkd]; rfl
      have e4 : setF F k v = F := by unfold setF; rw [e3]; rfl
      rw [e3, e4]
      refine (set_no h0 v (.inr ⟨k, rfl, by omega, hk, hkd⟩)).mono ?_
      rintro e W' ⟨rfl, hb⟩
      exact ⟨rfl, h.ok hb⟩
  · have e1 : getB F i = false := decide_eq_false hi
    have e3 : setB F i v = false := by unfold setB; rw [e1]; rfl
    have e4 : setF F i v = F := by unfold setF; rw [e3]; rfl
    rw [e3, e4]
    refine (set_no h0 v (.inl (by omega))).mono ?_
    rintro e W' ⟨rfl, hb⟩
    exact ⟨rfl, h.ok hb⟩
theorem fo_push (h : FO w W fg c F K) (v : V) (hv : VOk v) : Calls Try.prog 62 #[.pointer (some ⟨fg, 0, none⟩), vagg v] W fun e W' => e = .returned (.bool (pushB F v)) ∧ FOk w W fg c (pushF F v) K W' := by
  obtain ⟨base, gm, nm, A, cap, h0, h1, h2, h3⟩ := h.ex
  cases hb : pushB F v with
  | true =>
    have e4 : pushF F v = { F with stk := F.stk ++ [v] } := by unfold pushF; rw [hb, if_pos rfl]
    rw [e4]
    unfold pushB at hb
    simp only [Bool.and_eq_true, decide_eq_true_eq] at hb
    refine (push_yes h0 v hv hb.1 hb.2).mono ?_
    rintro e W' ⟨A', cap', rfl, ht, hA, h4⟩
    exact ⟨rfl, h.step h0 h2 h3 ht (fun b e => by rcases e with e | e; exact .inl e; exact .inr (.inr e)) h4 h1 hA⟩
  | false =>
    have e4 : pushF F v = F := by unfold pushF; rw [hb]; rfl
    rw [e4]
    refine (push_no h0 v hv ?_).mono ?_
    · unfold pushB at hb
      cases hk : kindB v.1 with
      | false => exact .inl rfl
      | true =>
        rw [hk, Bool.true_and] at hb
        have := of_decide_eq_false hb
        exact .inr (by omega)
    · rintro e W' ⟨rfl, hb⟩
      exact ⟨rfl, h.ok hb⟩
theorem fo_top (h : FO w W fg c F K) : Calls Try.prog 79 #[.pointer (some ⟨fg, 0, none⟩)] W fun e W' => e = .returned (.tuple #[vagg (topV F), .bool (topB F)]) ∧ Below W.heap.size W W' := by
  obtain ⟨base, gm, nm, A, cap, h0, -⟩ := h.ex
  rcases List.eq_nil_or_concat F.stk with e | ⟨l, v, e⟩
  · have e1 : topB F = false := by unfold topB; rw [e]; rfl
    have e2 : topV F = zv := by unfold topV; rw [e]; rfl
    rw [e1, e2]
    exact top_no h0 e
  · rw [List.concat_eq_append] at e
    have e1 : topB F = true := by unfold topB; rw [e]; simp
    have e2 : topV F = v := by unfold topV; rw [e]; simp
    rw [e1, e2]
    exact top_yes h0 e
theorem fo_pop (h : FO w W fg c F K) (k : Int) (hk : 0 ≤ k ∧ k ≤ 255) : Calls Try.prog 69 #[.pointer (some ⟨fg, 0, none⟩), .int .u8 k] W fun e W' => e = .returned (.tuple #[vagg (popV F k), .bool (popB F k)]) ∧ FOk w W fg c (popF F k) K W' := by
  obtain ⟨base, gm, nm, A, cap, h0, h1, h2, h3⟩ := h.ex
  have hno : popB F k = false → (F.stk = [] ∨ ∃ l v, F.stk = l ++ [v] ∧ k ≠ 0 ∧ v.1 ≠ k) → Calls Try.prog 69 #[.pointer (some ⟨fg, 0, none⟩), .int .u8 k] W fun e W' => e = .returned (.tuple #[vagg (popV F k), .bool (popB F k)]) ∧ FOk w W fg c (popF F k) K W' := by
    intro hb hn
    have e4 : popF F k = F := by unfold popF; rw [hb]; rfl
    have e5 : popV F k = zv := by unfold popV; rw [hb]; rfl
    rw [e4, e5, hb]
    refine (pop_no h0 k hk hn).mono ?_
    rintro e W' ⟨rfl, hb⟩
    exact ⟨rfl, h.ok hb⟩
  rcases List.eq_nil_or_concat F.stk with e | ⟨l, v, e⟩
  · have e1 : topB F = false := by unfold topB; rw [e]; rfl
    exact hno (by unfold popB; rw [e1]; rfl) (.inl e)
  · rw [List.concat_eq_append] at e
    have e1 : topB F = true := by unfold topB; rw [e]; simp
    have e2 : topV F = v := by unfold topV; rw [e]; simp
    by_cases hkd : k = 0 ∨ v.1 = k
    · have e3 : popB F k = true := by unfold popB; rw [e1, e2, decide_eq_true hkd]; rfl
      have e4 : popF F k = { F with stk := l } := by unfold popF; rw [e3, if_pos rfl, e, List.dropLast_concat]
      have e5 : popV F k = v := by unfold popV; rw [e3, if_pos rfl, e2]
      rw [e3, e4, e5]
      refine (pop_yes h0 k hk e hkd).mono ?_
      rintro e W' ⟨rfl, ht, h4⟩
      exact ⟨rfl, h.step h0 h2 h3 ht (fun b e => .inl e) h4 h1 (fun a e => .inr ⟨a, e, rfl⟩)⟩
    · refine hno (by unfold popB; rw [e1, e2, decide_eq_false hkd]; rfl) (.inr ⟨l, v, e, ?_, ?_⟩)
      · exact fun e => hkd (.inl e)
      · exact fun e => hkd (.inr e)

/-- New. -/
theorem fo_new (w : World) (A0 A1 A2 : Option Addr) (n0 n1 n2 c0 c1 c2 : Nat) (ks ls : List Int) (vs : List V) (hA0 : BytesAt w A0 n0 ks) (hA1 : BytesAt w A1 n1 ls) (hA2 : VsAt w A2 n2 vs) (b0 : n0 ≤ 100000) (b1 : n1 ≤ 100000) (b2 : n2 ≤ 100000) (hok : NewOk ks ls vs) :
    Calls Try.prog 21 #[.slice A0 n0 c0, .slice A1 n1 c1, .slice A2 n2 c2] w fun e W => ∃ fg, e = .returned (.tuple #[.pointer (some ⟨fg, 0, none⟩), .int .i64 0]) ∧ FO w W fg 0 (newFr ks ls vs) (fun b => b < w.heap.size) := by
  refine (new_any w A0 A1 A2 n0 n1 n2 c0 c1 c2 ks ls vs hA0 hA1 hA2 b0 b1 b2).mono ?_
  rintro e W (⟨-, base, fg, gm, rfl, hb, h1, h2, h3⟩ | ⟨h, -⟩)
  · refine ⟨fg, rfl, ⟨base, gm, 0, none, 0, h3, Nat.le_refl _, h2, fun b hb2 => ⟨Nat.lt_of_lt_of_le hb2 hb.size, ?_⟩⟩, hb, h1⟩
    rintro (e | e | ⟨a, e, -⟩)
    · omega
    · omega
    · cases e
  · exact absurd hok h
theorem fo_new_no (w : World) (A0 A1 A2 : Option Addr) (n0 n1 n2 c0 c1 c2 : Nat) (ks ls : List Int) (vs : List V) (hA0 : BytesAt w A0 n0 ks) (hA1 : BytesAt w A1 n1 ls) (hA2 : VsAt w A2 n2 vs) (b0 : n0 ≤ 100000) (b1 : n1 ≤ 100000) (b2 : n2 ≤ 100000) (hok : ¬ NewOk ks ls vs) :
    Calls Try.prog 21 #[.slice A0 n0 c0, .slice A1 n1 c1, .slice A2 n2 c2] w fun e W => e = .returned (.tuple #[.pointer none, .int .i64 2]) ∧ Below w.heap.size w W := by
  refine (new_any w A0 A1 A2 n0 n1 n2 c0 c1 c2 ks ls vs hA0 hA1 hA2 b0 b1 b2).mono ?_
  rintro e W (⟨h, -⟩ | ⟨-, rfl, hb⟩)
  · exact absurd h hok
  · exact ⟨rfl, hb⟩
end
end Go.Proofs.Ytkhgpeejmbfmjaa
/- Heaps (package heap): a heap that was made: what lies in memory, and the contracts of its functions. -/
namespace Go.Proofs.Ytkhgpeejmbfmjaa.Hp
open Go.RowKit Go.Shelf
set_option linter.unusedSimpArgs false
set_option linter.unusedVariables false
set_option maxRecDepth 100000

/-- A heap in memory, with the arrays arrs in room words. -/
structure HeapAt (W : World) (gh gw base room : Nat) (arrs : List (List Int)) (A : Option Addr) (cap : Nat) : Prop where
  hb : Blk W gh [.slice (some ⟨gw, 0, none⟩) room room, .slice A arrs.length cap, .bool true]
  hw : Blk W gw ((words room arrs).map (Value.int .i64))
  rm : room ≤ 1024
  sm : arrs.flatten.length ≤ room
  ml : arrs.length ≤ 30000
  row : W.ownsRow base 74 1 (.slice A arrs.length cap) arrs.length ((svs gw arrs).map svV)
  b1 : gh < base
  b2 : gw < base
  ne : gh ≠ gw
  bs : base ≤ W.heap.size

/-- Its blocks. -/
def FH (gh gw : Nat) (A : Option Addr) : Nat → Prop := fun k => k = gh ∨ k = gw ∨ ∃ a : Addr, A = some a ∧ k = a.block

theorem HeapAt.touch {S : Nat → Prop} {W W' : World} {gh gw base room : Nat} {arrs : List (List Int)} {A : Option Addr} {cap : Nat} (h : HeapAt W gh gw base room arrs A cap) (t : Touch S W W') (hs : ∀ k, FH gh gw A k → ¬ S k) :
    HeapAt W' gh gw base room arrs A cap :=
  { h with hb := h.hb.touch t (hs _ (.inl rfl)), hw := h.hw.touch t (hs _ (.inr (.inl rfl))), row := t.row h.row (fun g o c e => hs _ (.inr (.inr ⟨_, by injection e, rfl⟩))), bs := Nat.le_trans h.bs t.size }
theorem HeapAt.below {W W' : World} {gh gw base room : Nat} {arrs : List (List Int)} {A : Option Addr} {cap : Nat} (h : HeapAt W gh gw base room arrs A cap) (hb : Below W.heap.size W W') : HeapAt W' gh gw base room arrs A cap :=
  h.touch (Touch.of_below hb (Nat.le_refl _) (fun _ => False)) (fun _ _ e => e)

theorem HeapAt.rowIn {W : World} {gh gw base room : Nat} {arrs : List (List Int)} {A : Option Addr} {cap : Nat} (h : HeapAt W gh gw base room arrs A cap) : RowIn W.heap.size W A (svs gw arrs) := by
  intro j hj
  have hr := h.row
  obtain ⟨-, hr2⟩ := id hr
  rw [svs_length] at hj
  rcases hr2 with ⟨e, e2⟩ | ⟨g, c, cur, e, hb, hc, -⟩
  · omega
  · injection e with e1 e2 e3
    subst e1
    refine ⟨g, 0, rfl, (Array.getElem?_eq_some_iff.1 hc).1, ?_⟩
    rw [Nat.zero_add]
    have := hr.cellAt j (by omega)
    rw [this, List.getElem?_map, svs_get gw arrs j hj]
    rfl

section
variable {W : World} {gh gw base room : Nat} {arrs : List (List Int)} {A : Option Addr} {cap : Nat}

theorem array_at (h : HeapAt W gh gw base room arrs A cap) (ref : Int) :
    Calls Try.prog 70 #[.pointer (some ⟨gh, 0, none⟩), .int .i64 ref] W fun e W' => e = .returned (.tuple #[svV (arrOf (svs gw arrs) ref), .bool (hasB (svs gw arrs) ref)]) ∧ Below W.heap.size W W' :=
  array_any gh ref A cap (svs gw arrs) (by rw [svs_length]; have := h.ml; omega) W h.hb.l (by rw [svs_length]; exact h.hb.c 1 _ rfl) (h.hb.c 2 _ rfl) h.rowIn
theorem arr_k {k : Nat} (hk : k < arrs.length) : arrOf (svs gw arrs) ((k : Int) + 1) = (some ⟨gw, if arrs[k].length = 0 then 0 else st arrs k, none⟩, arrs[k].length, arrs[k].length) ∧ hasB (svs gw arrs) ((k : Int) + 1) = true := by
  have h1 : 0 ≤ (k : Int) + 1 ∧ (k : Int) + 1 ≤ (svs gw arrs).length := by rw [svs_length]; omega
  refine ⟨?_, decide_eq_true h1⟩
  unfold arrOf
  rw [if_pos h1]
  have e : ((k : Int) + 1).toNat = k + 1 := by omega
  rw [e]
  simp [nthV, svs_get gw arrs k hk]
theorem arr_0 : arrOf (svs gw arrs) 0 = (none, 0, 0) ∧ hasB (svs gw arrs) 0 = true := by
  have h1 : (0 : Int) ≤ 0 ∧ (0 : Int) ≤ (svs gw arrs).length := by omega
  refine ⟨?_, decide_eq_true h1⟩
  unfold arrOf
  rw [if_pos h1]
  rfl
theorem arr_no {ref : Int} (h : ref < 0 ∨ arrs.length < ref) : arrOf (svs gw arrs) ref = (none, 0, 0) ∧ hasB (svs gw arrs) ref = false := by
  have h1 : ¬ (0 ≤ ref ∧ ref ≤ (svs gw arrs).length) := by rw [svs_length]; omega
  exact ⟨if_neg h1, decide_eq_false h1⟩

/-- Which place of the words is place i of array ref, if there is one. -/
def plA (arrs : List (List Int)) (ref i : Int) : Option (Nat × Nat) :=
  if 1 ≤ ref ∧ 0 ≤ i ∧ i < (arrs[(ref - 1).toNat]?.getD []).length then some ((ref - 1).toNat, i.toNat) else none
theorem plA_some {ref i : Int} {k j : Nat} (h : plA arrs ref i = some (k, j)) : ref = (k : Int) + 1 ∧ i = j ∧ ∃ hk : k < arrs.length, j < arrs[k].length := by
  unfold plA at h
  split at h
  · rename_i hc
    injection h with h
    injection h with h1 h2
    subst h1 h2
    by_cases hk : (ref - 1).toNat < arrs.length
    · rw [List.getElem?_eq_getElem hk, Option.getD_some] at hc
      exact ⟨by omega, by omega, hk, by omega⟩
    · rw [List.getElem?_eq_none (by omega)] at hc
      simp at hc
      omega
  · cases h
theorem plA_none {ref i : Int} (h : plA arrs ref i = none) (h1 : 1 ≤ ref) (h2 : 0 ≤ i) {k : Nat} (hk : k < arrs.length) (he : ref = (k : Int) + 1) : (arrs[k].length : Int) ≤ i := by
  unfold plA at h
  split at h
  · cases h
  · rename_i hc
    have e : (ref - 1).toNat = k := by omega
    rw [e, List.getElem?_eq_getElem hk, Option.getD_some] at hc
    omega

theorem place_yes (h : HeapAt W gh gw base room arrs A cap) {k j : Nat} (hk : k < arrs.length) (hj : j < arrs[k].length) :
    Calls Try.prog 68 #[.pointer (some ⟨gh, 0, none⟩), .int .i64 ((k : Int) + 1), .int .i64 j] W fun e W' => e = .returned (.pointer (some ⟨gw, st arrs k + j, none⟩)) ∧ Below W.heap.size W W' := by
  have ha := array_at h ((k : Int) + 1)
  rw [(arr_k hk).1, (arr_k hk).2, if_neg (by omega)] at ha
  simp only [svV] at ha
  have hsl := st_le hk
  have hrm := h.rm
  have hsm := h.sm
  have HA := Lib.hid ha
  generalize arrs[k].length = L at *
  generalize st arrs k = S at *
  have h1 : (j : Int) < (L : Int) := by omega
  have h2 : (L : Int) ≤ 1024 := by omega
  have h3 : (k : Int) ≤ 30000 := by have := h.ml; omega
  clear ha h hk
  go_enter Try.func68, Try.ntmps68
  go_wp2_with fail
  refine HA.out.mono ?_
  rintro e w1 ⟨rfl, hb⟩
  go_wp2_with fail
  go_ret
  exact ⟨rfl, hb⟩

theorem place_no (h : HeapAt W gh gw base room arrs A cap) {ref i : Int} (hp : plA arrs ref i = none) :
    Calls Try.prog 68 #[.pointer (some ⟨gh, 0, none⟩), .int .i64 ref, .int .i64 i] W fun e W' => e = .returned (.pointer none) ∧ Below W.heap.size W W' := by
  have ha := array_at h ref
  by_cases h1 : ref < 0 ∨ arrs.length < ref
  · rw [(arr_no h1).1, (arr_no h1).2] at ha
    simp only [svV] at ha
    have HA := Lib.hid ha
    clear ha h hp h1
    go_enter Try.func68, Try.ntmps68
    go_wp2_with fail
    refine HA.out.mono ?_
    rintro e w1 ⟨rfl, hb⟩
    go_wp2_with fail
    go_ret
    exact ⟨rfl, hb⟩
  by_cases h2 : i < 0
  · have hb0 : hasB (svs gw arrs) ref = true := decide_eq_true (by rw [svs_length]; omega)
    rw [hb0] at ha
    simp only [svV] at ha
    generalize (arrOf (svs gw arrs) ref).1 = X1 at *
    generalize (arrOf (svs gw arrs) ref).2.1 = X2 at *
    generalize (arrOf (svs gw arrs) ref).2.2 = X3 at *
    have HA := Lib.hid ha
    clear ha h hp h1 hb0
    go_enter Try.func68, Try.ntmps68
    go_wp2_with fail
    refine HA.out.mono ?_
    rintro e w1 ⟨rfl, hb⟩
    go_wp2_with fail
    go_ret
    exact ⟨rfl, hb⟩
  by_cases h3 : ref = 0
  · subst h3
    rw [arr_0.1, arr_0.2] at ha
    simp only [svV] at ha
    have HA := Lib.hid ha
    have h4 : 0 ≤ i := by omega
    clear ha h hp h1 h2
    go_enter Try.func68, Try.ntmps68
    go_wp2_with fail
    refine HA.out.mono ?_
    rintro e w1 ⟨rfl, hb⟩
    go_wp2_with fail
    go_ret
    exact ⟨rfl, hb⟩
  · obtain ⟨k, hk⟩ := Int.eq_ofNat_of_zero_le (show 0 ≤ ref - 1 by omega)
    have hk' : k < arrs.length := by omega
    obtain rfl : ref = (k : Int) + 1 := by omega
    have hle := plA_none hp (by omega) (by omega) hk' rfl
    rw [(arr_k hk').1, (arr_k hk').2] at ha
    simp only [svV] at ha
    generalize (if arrs[k].length = 0 then 0 else st arrs k) = S at *
    generalize arrs[k].length = L at *
    have HA := Lib.hid ha
    have h4 : 0 ≤ i := by omega
    clear ha h hp h1 h2 h3 hk
    go_enter Try.func68, Try.ntmps68
    go_wp2_with fail
    refine HA.out.mono ?_
    rintro e w1 ⟨rfl, hb⟩
    go_wp2_with fail
    go_ret
    exact ⟨rfl, hb⟩

theorem at_yes (h : HeapAt W gh gw base room arrs A cap) {k j : Nat} (hk : k < arrs.length) (hj : j < arrs[k].length) :
    Calls Try.prog 44 #[.pointer (some ⟨gh, 0, none⟩), .int .i64 ((k : Int) + 1), .int .i64 j] W fun e W' => e = .returned (.tuple #[.int .i64 arrs[k][j], .bool true]) ∧ Below W.heap.size W W' := by
  have ha := place_yes h hk hj
  have hc := h.hw.c (st arrs k + j) (.int .i64 arrs[k][j]) (by rw [List.getElem?_map, words_get hk hj]; rfl)
  have hl := h.hw.l
  generalize arrs[k][j] = x at *
  have HA := Lib.hid ha
  have HC := Lib.hid hc
  clear ha hc h
  go_enter Try.func44, Try.ntmps44
  go_wp2_with fail
  refine HA.out.mono ?_
  rintro e w1 ⟨rfl, hb⟩
  have hc := (hb.cell (p := ⟨gw, st arrs k + j, none⟩) hl).trans HC.out
  go_wp2_with fail
  go_ret2
  exact ⟨rfl, hb⟩
theorem at_no (h : HeapAt W gh gw base room arrs A cap) {ref i : Int} (hp : plA arrs ref i = none) :
    Calls Try.prog 44 #[.pointer (some ⟨gh, 0, none⟩), .int .i64 ref, .int .i64 i] W fun e W' => e = .returned (.tuple #[.int .i64 0, .bool false]) ∧ Below W.heap.size W W' := by
  have ha := place_no h hp
  have HA := Lib.hid ha
  clear ha h hp
  go_enter Try.func44, Try.ntmps44
  go_wp2_with fail
  refine HA.out.mono ?_
  rintro e w1 ⟨rfl, hb⟩
  go_wp2_with fail
  go_ret2
  exact ⟨rfl, hb⟩
theorem put_no (h : HeapAt W gh gw base room arrs A cap) {ref i : Int} (v : Int) (hp : plA arrs ref i = none) :
    Calls Try.prog 46 #[.pointer (some ⟨gh, 0, none⟩), .int .i64 ref, .int .i64 i, .int .i64 v] W fun e W' => e = .returned (.bool false) ∧ Below W.heap.size W W' := by
  have ha := place_no h hp
  have HA := Lib.hid ha
  clear ha h hp
  go_enter Try.func46, Try.ntmps46
  go_wp2_with fail
  refine HA.out.mono ?_
  rintro e w1 ⟨rfl, hb⟩
  go_wp2_with fail
  go_ret
  exact ⟨rfl, hb⟩
theorem put_yes (h : HeapAt W gh gw base room arrs A cap) {k j : Nat} (v : Int) (hk : k < arrs.length) (hj : j < arrs[k].length) :
    Calls Try.prog 46 #[.pointer (some ⟨gh, 0, none⟩), .int .i64 ((k : Int) + 1), .int .i64 j, .int .i64 v] W fun e W' => e = .returned (.bool true) ∧
      Touch (fun b => b = gw) W W' ∧ HeapAt W' gh gw base room (arrs.set k (arrs[k].set j v)) A cap := by
  have ha := place_yes h hk hj
  have hi : ((words room arrs).map (Value.int .i64))[st arrs k + j]? = some (.int .i64 arrs[k][j]) := by rw [List.getElem?_map, words_get hk hj]; rfl
  have hc := h.hw.c _ _ hi
  have hf := h.hw.f (st arrs k + j)
  have hl := h.hw.l
  have HA := Lib.hid ha
  have HC := Lib.hid hc
  have HF := Lib.hid hf
  have H := Lib.hid h
  clear ha hc hf h
  go_enter Try.func46, Try.ntmps46
  go_wp2_with fail
  refine HA.out.mono ?_
  rintro e w1 ⟨rfl, hb⟩
  have hc := (hb.cell (p := ⟨gw, st arrs k + j, none⟩) hl).trans HC.out
  have hf := (hb.frozen (p := ⟨gw, st arrs k + j, none⟩) hl).trans HF.out
  have HB := Lib.hid hb
  clear hb
  go_wp2_with fail
  go_ret
  have t1 : Touch (fun b => b = gw) W (w1.setCell ⟨gw, st arrs k + j, none⟩ (.int .i64 v)) := (Touch.of_below HB.out (Nat.le_refl _) _).setCell _ _ (fun _ => rfl)
  have h1 := H.out.below HB.out
  refine ⟨rfl, t1, ?_⟩
  have hs := set_flatten_length hk j v
  have t2 : Touch (fun b => b = gw) w1 (w1.setCell ⟨gw, st arrs k + j, none⟩ (.int .i64 v)) := (Touch.refl _ _).setCell _ _ (fun _ => rfl)
  refine ⟨?_, ?_, h1.rm, by rw [hs]; exact h1.sm, by rw [List.length_set]; exact h1.ml, ?_, h1.b1, h1.b2, h1.ne, by simpa using h1.bs⟩
  · rw [List.length_set]; exact h1.hb.touch t2 h1.ne
  · have := h1.hw.set hi (.int .i64 v)
    rw [← List.map_set, words_set hk hj v] at this
    exact this
  · rw [List.length_set, svs_set gw hk j v]
    refine t2.row h1.row (fun g o c e e2 => ?_)
    obtain ⟨-, hr⟩ := h1.row
    rcases hr with ⟨e3, -⟩ | ⟨g', c', cur, e3, hb', -⟩
    · rw [e] at e3; cases e3
    · rw [e] at e3
      injection e3 with e3
      injection e3 with e3
      injection e3 with e3
      have := h1.b2
      have : g = gw := e2
      omega

theorem len_at (h : HeapAt W gh gw base room arrs A cap) (ref : Int) :
    Calls Try.prog 47 #[.pointer (some ⟨gh, 0, none⟩), .int .i64 ref] W fun e W' =>
      e = .returned (.tuple #[.int .i64 (if 1 ≤ ref ∧ ref ≤ arrs.length then ((arrs[(ref - 1).toNat]?.getD []).length : Int) else 0), .bool (decide (0 ≤ ref ∧ ref ≤ arrs.length))]) ∧ Below W.heap.size W W' := by
  have ha := array_at h ref
  have hx : hasB (svs gw arrs) ref = decide (0 ≤ ref ∧ ref ≤ arrs.length) := by unfold hasB; rw [svs_length]
  have hy : ((arrOf (svs gw arrs) ref).2.1 : Int) = if 1 ≤ ref ∧ ref ≤ arrs.length then ((arrs[(ref - 1).toNat]?.getD []).length : Int) else 0 := by
    by_cases h1 : 1 ≤ ref ∧ ref ≤ arrs.length
    · obtain ⟨k, hk⟩ := Int.eq_ofNat_of_zero_le (show 0 ≤ ref - 1 by omega)
      have hk' : k < arrs.length := by omega
      obtain rfl : ref = (k : Int) + 1 := by omega
      rw [(arr_k hk').1, if_pos h1]
      have e : ((k : Int) + 1 - 1).toNat = k := by omega
      rw [e, List.getElem?_eq_getElem hk']
      rfl
    · rw [if_neg h1]
      by_cases h2 : ref = 0
      · subst h2; rw [arr_0.1]; rfl
      · rw [(arr_no (by omega)).1]; rfl
  rw [hx] at ha
  rw [← hy]
  simp only [svV] at ha
  generalize decide (0 ≤ ref ∧ ref ≤ arrs.length) = bq at *
  generalize (arrOf (svs gw arrs) ref).1 = X1 at *
  generalize (arrOf (svs gw arrs) ref).2.1 = X2 at *
  generalize (arrOf (svs gw arrs) ref).2.2 = X3 at *
  have HA := Lib.hid ha
  clear ha h hx hy
  go_enter Try.func47, Try.ntmps47
  go_wp2_with fail
  refine HA.out.mono ?_
  rintro e w1 ⟨rfl, hb⟩
  go_wp2_with fail
  go_ret2
  exact ⟨rfl, hb⟩

theorem used_at (h : HeapAt W gh gw base room arrs A cap) :
    Calls Try.prog 15 #[.pointer (some ⟨gh, 0, none⟩)] W fun e W' => e = .returned (.int .i64 arrs.flatten.length) ∧ Below W.heap.size W W' := by
  have hu := used_any gh A cap (svs gw arrs) (by rw [svs_length]; have := h.ml; omega) W h.hb.l (by rw [svs_length]; exact h.hb.c 1 _ rfl) (h.hb.c 2 _ rfl) h.rowIn
  rw [svs_length, sum_svs gw arrs (Nat.le_trans h.sm h.rm) arrs.length (Nat.le_refl _), st_all] at hu
  exact hu
end
end Go.Proofs.Ytkhgpeejmbfmjaa.Hp
/- Heaps (package heap): New, and Make. -/
namespace Go.Proofs.Ytkhgpeejmbfmjaa.Hp
open Go.RowKit Go.Shelf
set_option linter.unusedSimpArgs false
set_option linter.unusedVariables false
set_option maxRecDepth 100000

theorem info2 : (Try.prog.info? 2).map (fun i => (i.zero, i.size, i.bytes)) = some (some (.int .i64 0), 1, 8) := by kernel_rfl
theorem info25 : (Try.prog.info? 74).map (fun i => (i.zero, i.size, i.bytes)) = some (some (.slice none 0 0), 1, 24) := by kernel_rfl
theorem hp_parts {i? : Option TypeInfo} {z : Value} {s b : Nat} (h : i?.map (fun i => (i.zero, i.size, i.bytes)) = some (some z, s, b)) : ∃ i, i? = some i ∧ i.zero = some z ∧ i.size = s ∧ i.bytes = b := by
  cases i? with
  | none => cases h
  | some i => simp at h; exact ⟨i, rfl, h⟩

theorem new_no (n : Int) (w : World) (h : n < 0 ∨ 1024 < n) : Calls Try.prog 20 #[.int .i64 n] w fun e w' => e = .returned (.tuple #[.pointer none, .int .i64 2]) ∧ w' = w := by
  by_cases h1 : n < 0
  · go_enter Try.func20, Try.ntmps20
    go_wp2_with fail
    go_ret2
    exact ⟨rfl, rfl⟩
  · have h2 : 1024 < n := by omega
    go_enter Try.func20, Try.ntmps20
    go_wp2_with fail
    go_ret2
    exact ⟨rfl, rfl⟩

theorem made_one (n : Nat) (j : Nat) (hj : j < n) (z : Array Value) (hz : z.size = 1) : (madeCells z (n * 1)).toList[j]? = some (z[0]!) := by
  unfold madeCells
  rw [hz]
  simp [hj, Nat.mod_one]

/-- What New comes to. -/
def NewHeap (w : World) (n : Nat) (e : Ending) (w' : World) : Prop :=
  ∃ gh gw, e = .returned (.tuple #[.pointer (some ⟨gh, 0, none⟩), .int .i64 0]) ∧ Below w.heap.size w w' ∧ w.heap.size ≤ gw ∧ w.heap.size ≤ gh ∧ gh < w'.heap.size ∧ HeapAt w' gh gw w'.heap.size n [] none 0

theorem new_yes (n : Nat) (w : World) (h2 : n ≤ 1024) : Calls Try.prog 20 #[.int .i64 n] w fun e w' => NewHeap w n e w' := by
  obtain ⟨i2, hi, hz0, hz1, hz2⟩ := hp_parts info2
  have n1 : (n : Int) ≤ 1024 := by omega
  have n0 : (0 : Int) ≤ (n : Int) := by omega
  have hbb : i2.bytes * n ≤ 281474976710656 := by rw [hz2]; omega
  have hbn : n ≤ maxLen := by unfold maxLen; omega
  go_enter Try.func20, Try.ntmps20
  go_wp2_with (first | (refine wpList_make_full _ rfl _ _ 74 rfl w.heap.size 2 i2 (.int .i64 0) 1 Try.underlying74 hi hz0 hz1 .i64 .i64 (n : Int) (n : Int) n rfl rfl rfl rfl hbb hbn (Nat.le_refl _) ?_; intro w2 hown hgrow) | fail)
  go_ret2
  have hlt := hown.lt _ rfl
  have hB2 : Below w.heap.size w w2 := (Below.refl _ _).grown hgrow (Nat.le_refl _) (fun k hk => by cases hk)
  have hlt2 : w.heap.size < w2.heap.size := hlt.2
  have hw2 : Blk w2 w.heap.size ((words n []).map (Value.int .i64)) := by
    refine ⟨fun j v hj => ?_, fun o => hown.frozenAt _, hlt2⟩
    have hw : words n [] = List.replicate n 0 := by simp [words]
    rw [hw, List.getElem?_map, List.getElem?_replicate] at hj
    split at hj
    · rename_i hjn
      rw [hown.cellAt _ (by omega)]
      rw [← hj]
      exact made_one n j hjn _ rfl
    · cases hj
  refine ⟨w2.heap.size, w.heap.size, rfl, hB2.alloc hB2.size _, Nat.le_refl _, by omega, by simp, ?_, hw2.alloc _, h2, by simp, by simp, ?_, by simp, by simp; omega, by omega, Nat.le_refl _⟩
  · exact Blk.new w2 _ _
  · exact World.ownsRow_nil _ _ _ _

theorem make_arg {W : World} {gh gw base room : Nat} {arrs : List (List Int)} {A : Option Addr} {cap : Nat} (h : HeapAt W gh gw base room arrs A cap) (n : Int) (hn : n < 0 ∨ 1024 < n) :
    Calls Try.prog 67 #[.pointer (some ⟨gh, 0, none⟩), .int .i64 n] W fun e W' => e = .returned (.tuple #[.int .i64 0, .int .i64 2]) ∧ Below W.heap.size W W' := by
  have hu := used_at h
  have HU := Lib.hid hu
  have hb := h.hb
  have HBK := Lib.hid hb
  clear hu h hb
  by_cases h1 : n < 0
  · clear hn
    go_enter Try.func67, Try.ntmps67
    go_wp2_with fail
    refine HU.out.mono ?_
    rintro e w1 ⟨rfl, hb⟩
    have c2 : w1.cell? ⟨gh, 2, none⟩ = some (.bool true) := (HBK.out.below hb).c 2 _ rfl
    go_wp2_with fail
    go_ret2
    exact ⟨rfl, hb⟩
  · have h2 : 1024 < n := by omega
    clear hn
    go_enter Try.func67, Try.ntmps67
    go_wp2_with fail
    refine HU.out.mono ?_
    rintro e w1 ⟨rfl, hb⟩
    have c2 : w1.cell? ⟨gh, 2, none⟩ = some (.bool true) := (HBK.out.below hb).c 2 _ rfl
    go_wp2_with fail
    go_ret2
    exact ⟨rfl, hb⟩

theorem make_full {W : World} {gh gw base room : Nat} {arrs : List (List Int)} {A : Option Addr} {cap : Nat} (h : HeapAt W gh gw base room arrs A cap) (n : Nat) (hn : n ≤ 1024) (hf : room < arrs.flatten.length + n) :
    Calls Try.prog 67 #[.pointer (some ⟨gh, 0, none⟩), .int .i64 n] W fun e W' => e = .returned (.tuple #[.int .i64 0, .int .i64 4]) ∧ Below W.heap.size W W' := by
  have hu := used_at h
  have hsm := h.sm
  have hrm := h.rm
  have hb := h.hb
  have HBK := Lib.hid hb
  generalize arrs.flatten.length = L at *
  have HU := Lib.hid hu
  have h1 : (n : Int) ≤ 1024 := by omega
  have h2 : (0 : Int) ≤ (n : Int) := by omega
  have h3 : (room : Int) - (L : Int) < (n : Int) := by omega
  have h4 : (room : Int) ≤ 1024 := by omega
  have h5 : (L : Int) ≤ (room : Int) := by omega
  clear hu h hb hn hf
  go_enter Try.func67, Try.ntmps67
  go_wp2_with fail
  refine HU.out.mono ?_
  rintro e w1 ⟨rfl, hb⟩
  have c2 : w1.cell? ⟨gh, 2, none⟩ = some (.bool true) := (HBK.out.below hb).c 2 _ rfl
  have c0 : w1.cell? ⟨gh, 0, none⟩ = some (.slice (some ⟨gw, 0, none⟩) room room) := (HBK.out.below hb).c 0 _ rfl
  go_wp2_with fail
  go_ret2
  exact ⟨rfl, hb⟩

/-- A row with room takes one cell more. -/
theorem row_push {W : World} {base : Nat} {e : TypeId} {g n cap : Nat} {xs : List Value} (h : W.ownsRow base e 1 (.slice (some ⟨g, 0, none⟩) n cap) n xs) (hc : n < cap) (v : Value) :
    (W.setCell ⟨g, n, none⟩ v).ownsRow base e 1 (.slice (some ⟨g, 0, none⟩) (n + 1) cap) (n + 1) (xs ++ [v]) := by
  obtain ⟨hl, h⟩ := h
  refine ⟨by simp [hl], .inr ?_⟩
  rcases h with ⟨e1, -⟩ | ⟨g', c, cur, e1, hb, hg, h1, h2, h3, h4⟩
  · cases e1
  · injection e1 with e1 e2 e3
    injection e1 with e1
    injection e1 with e1
    subst e1 e3
    refine ⟨g, cap, cur.setIfInBounds n v, rfl, hb, ?_, by omega, h2, by simpa using h3, ?_⟩
    · simp [World.setCell, Array.getElem?_modify, hg]
    · simp only [Nat.mul_one] at h3 h4 ⊢
      rw [Array.toList_setIfInBounds, List.take_succ_eq_append_getElem (by simp; omega), List.getElem_set_self, List.take_set_of_le (Nat.le_refl _), h4]

/-- What Make comes to, where there is room. -/
def MadeArr (W : World) (gh gw base room : Nat) (arrs : List (List Int)) (A : Option Addr) (n : Nat) (e : Ending) (W' : World) : Prop :=
  ∃ A' cap', e = .returned (.tuple #[.int .i64 (arrs.length + 1), .int .i64 0]) ∧ Touch (fun k => k = gh ∨ ∃ a : Addr, A = some a ∧ k = a.block) W W' ∧
    (A' = A ∨ ∀ a : Addr, A' = some a → W.heap.size ≤ a.block) ∧ HeapAt W' gh gw base room (arrs ++ [List.replicate n 0]) A' cap'

end Go.Proofs.Ytkhgpeejmbfmjaa.Hp
