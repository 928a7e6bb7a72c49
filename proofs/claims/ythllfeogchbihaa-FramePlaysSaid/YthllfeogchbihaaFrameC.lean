/- Frames (package frame): Set, Pop, Push of a frame that was made. -/
import Derived.Test.YthllfeogchbihaaFrameB
import Derived.Test.YthllfeogchbihaaAppR
import Derived.Deep.AppendLies
namespace Go.Proofs.Ythllfeogchbihaa
open Go.RowKit
set_option linter.unusedSimpArgs false
set_option linter.unusedVariables false

section
variable {W : World} {base fg gm nm : Nat} {A : Option Addr} {cap : Nat} {F : Fr}
/-- Another local. -/
theorem FrAt.setLoc (h : FrAt W base fg gm nm A cap F) {i : Nat} (hi : i < 16) (v : V) (hv : VOk v) {W' : World} (hw : W' = ((W.setCell ⟨fg, i * 3, none⟩ (.int .u8 v.1)).setCell ⟨fg, i * 3 + 1, none⟩ (.int .i64 v.2.1)).setCell ⟨fg, i * 3 + 2, none⟩ (.int .i64 v.2.2)) :
    Touch (fun b => b = fg) W W' ∧ FrAt W' base fg gm nm A cap { F with locs := F.locs.set i v } := by
  have t : Touch (fun b => b = fg) W W' := by
    rw [hw]
    exact (((Touch.refl (fun b => b = fg) W).setCell _ _ (fun _ => rfl)).setCell _ _ (fun _ => rfl)).setCell _ _ (fun _ => rfl)
  have hrow := h.rowBase
  have e : (vcs F.locs).length = 48 := by rw [vcs_length, h.ll]
  have hl : i < F.locs.length := by rw [h.ll]; exact hi
  obtain ⟨a1, a2, a3⟩ := vcs_get F.locs i hl
  obtain ⟨D, m1, m2, m3⟩ := h.mp
  refine ⟨t, { h with blk := ?_, ll := by simpa using h.ll, row := t.row h.row (fun g o c e e2 => ?_), bs := Nat.le_trans h.bs t.size, mp := ⟨D, ownsMap_touch t m1 (fun e => h.ne e.symm), m2, m3⟩, vo := ?_ }⟩
  · have hb := ((h.blk.set (j := i * 3) (u := .int .u8 F.locs[i].1) (by rw [List.getElem?_append_left (by omega)]; exact a1) (.int .u8 v.1)).set (j := i * 3 + 1) (u := .int .i64 F.locs[i].2.1) (by rw [List.getElem?_set_ne (by omega), List.getElem?_append_left (by omega)]; exact a2) (.int .i64 v.2.1)).set (j := i * 3 + 2) (u := .int .i64 F.locs[i].2.2) (by rw [List.getElem?_set_ne (by omega), List.getElem?_set_ne (by omega), List.getElem?_append_left (by omega)]; exact a3) (.int .i64 v.2.2)
    rw [List.set_append_left _ _ (by omega), List.set_append_left _ _ (by rw [List.length_set]; omega), List.set_append_left _ _ (by rw [List.length_set, List.length_set]; omega), vcs_set _ _ _ hl] at hb
    rw [hw]
    exact hb
  · have e2 : g = fg := e2
    have h9 : base ≤ g := (hrow ⟨g, 0, none⟩ (by injection e)).1
    have := h.b1
    omega
  · intro u hu
    rcases List.mem_or_eq_of_mem_set hu with hu | rfl
    · exact h.vo u hu
    · exact hv
/-- Another place. -/
theorem FrAt.setPlace (h : FrAt W base fg gm nm A cap F) (p : Int) {W' : World} (hw : W' = W.setCell ⟨fg, 50, none⟩ (.int .i64 p)) :
    Touch (fun b => b = fg) W W' ∧ FrAt W' base fg gm nm A cap { F with place := p } := by
  have t : Touch (fun b => b = fg) W W' := by
    rw [hw]
    exact (Touch.refl (fun b => b = fg) W).setCell _ _ (fun _ => rfl)
  have hrow := h.rowBase
  have e : (vcs F.locs).length = 48 := by rw [vcs_length, h.ll]
  obtain ⟨D, m1, m2, m3⟩ := h.mp
  refine ⟨t, { h with blk := ?_, row := t.row h.row (fun g o c e e2 => ?_), bs := Nat.le_trans h.bs t.size, mp := ⟨D, ownsMap_touch t m1 (fun e => h.ne e.symm), m2, m3⟩ }⟩
  · have hb := h.blk.set (j := 50) (u := .int .i64 F.place) (by rw [List.getElem?_append_right (by omega), e]; rfl) (.int .i64 p)
    rw [List.set_append_right _ _ (by omega), e] at hb
    rw [hw]
    exact hb
  · have e2 : g = fg := e2
    have h9 : base ≤ g := (hrow ⟨g, 0, none⟩ (by injection e)).1
    have := h.b1
    omega
/-- Another stack: the slice is stored in a world where the new row lies. -/
theorem FrAt.restack (h : FrAt W base fg gm nm A cap F) {S : Nat → Prop} {W1 W' : World} (t : Touch S W W1) (h1 : ¬ S fg) (h2 : ¬ S gm) {A' : Option Addr} {cap' : Nat} {l : List V} (hl : l.length ≤ 256) (hso : ∀ v ∈ l, VOk v)
    (hrow : W1.ownsRow base 37 3 (.slice A' l.length cap') l.length (vcs l)) (hw : W' = W1.setCell ⟨fg, 49, none⟩ (.slice A' l.length cap')) : Touch (fun b => b = fg) W1 W' ∧ FrAt W' base fg gm nm A' cap' { F with stk := l } := by
  have t' : Touch (fun b => b = fg) W1 W' := by
    rw [hw]
    exact (Touch.refl (fun b => b = fg) W1).setCell _ _ (fun _ => rfl)
  have e : (vcs F.locs).length = 48 := by rw [vcs_length, h.ll]
  obtain ⟨D, m1, m2, m3⟩ := h.mp
  have hs1 := t.size
  have hs2 := t'.size
  have hbs := h.bs
  refine ⟨t', { h with blk := ?_, sl := hl, row := t'.row hrow (fun g o c e e2 => ?_), bs := by omega, mp := ⟨D, ownsMap_touch t' (ownsMap_touch t m1 h2) (fun e => h.ne e.symm), m2, m3⟩, so := hso }⟩
  · have hb := (h.blk.touch t h1).set (j := 49) (u := .slice A F.stk.length cap) (by rw [List.getElem?_append_right (by omega), e]; rfl) (.slice A' l.length cap')
    rw [List.set_append_right _ _ (by omega), e] at hb
    rw [hw]
    exact hb
  · have e2 : g = fg := e2
    have h9 : base ≤ g := (hrow.lt g (by rw [e]; rfl)).1
    have := h.b1
    omega

/-! Set -/
def SetTo (W : World) (base fg gm nm : Nat) (A : Option Addr) (cap : Nat) (F : Fr) (i : Nat) (v : V) (e : Ending) (W' : World) : Prop :=
  e = .returned (.bool true) ∧ Touch (fun b => b = fg) W W' ∧ FrAt W' base fg gm nm A cap { F with locs := F.locs.set i v }

theorem below_drew {n : Nat} {a w : World} (h : Below n a w) : Below n a w.drew := ⟨h.os, h.tape, h.output, h.size, h.block⟩
theorem SetTo.more {i : Nat} {v : V} {e : Ending} {W1 W2 : World} (h : SetTo W base fg gm nm A cap F i v e W1) (hb : Below W1.heap.size W1 W2) : SetTo W base fg gm nm A cap F i v e W2 := by
  obtain ⟨h1, h2, h3⟩ := h
  exact ⟨h1, h2.trans (Touch.of_below hb (Nat.le_refl _) _), h3.below hb⟩
theorem boxed (W : World) (v : V) : Blk (W.alloc (.cells #[.int .u8 v.1, .int .i64 v.2.1, .int .i64 v.2.2] 37)) W.heap.size (vc v) := Blk.new _ _ _
theorem set_yes (h : FrAt W base fg gm nm A cap F) {i : Nat} (hi : i < F.many) (hl : i < F.locs.length) (v : V) (hv : VOk v) (hk : F.locs[i].1 = v.1) :
    Calls Try.prog 22 #[.pointer (some ⟨fg, 0, none⟩), .int .i64 i, vagg v] W fun e W' => SetTo W base fg gm nm A cap F i v e W' := by
  have hb0 : Below W.heap.size W (W.alloc (.cells #[.int .u8 v.1, .int .i64 v.2.1, .int .i64 v.2.2] 37)) := (Below.refl _ _).alloc (Nat.le_refl _) _
  have h1 := h.below hb0
  have hbx := boxed W v
  have HG := Lib.hid (get_yes h1 hi hl)
  have hml := h.ml
  have hi16 : i < 16 := by omega
  have hs : fg < W.heap.size := h.blk.l
  have HFIN : Hid (∀ W', FrAt W' base fg gm nm A cap F → Touch (fun _ => False) W W' → SetTo W base fg gm nm A cap F i v (.returned (.bool true)) (((W'.setCell ⟨fg, i * 3, none⟩ (.int .u8 v.1)).setCell ⟨fg, i * 3 + 1, none⟩ (.int .i64 v.2.1)).setCell ⟨fg, i * 3 + 2, none⟩ (.int .i64 v.2.2))) := by
    apply Lib.hid
    intro W' h' t
    obtain ⟨t2, h2⟩ := h'.setLoc hi16 v hv rfl
    exact ⟨rfl, (t.mono (fun _ _ e => e.elim)).trans t2, h2⟩
  have HW2 : Hid (∀ w2, Below (W.alloc (.cells #[.int .u8 v.1, .int .i64 v.2.1, .int .i64 v.2.2] 37)).heap.size (W.alloc (.cells #[.int .u8 v.1, .int .i64 v.2.1, .int .i64 v.2.2] 37)) w2 → FrAt w2 base fg gm nm A cap F ∧ Touch (fun _ => False) W w2 ∧ Blk w2 W.heap.size (vc v)) :=
    Lib.hid (fun w2 hb => ⟨h1.below hb, (Touch.of_below hb0 (Nat.le_refl _) _).trans' (Touch.of_below hb (Nat.le_refl _) (fun _ => False)) (fun _ _ e => e), hbx.below hb⟩)
  obtain ⟨bx, hbxe⟩ : ∃ bx, W.heap.size = bx := ⟨_, rfl⟩
  obtain ⟨y0, y1, y2⟩ := v
  dsimp only at *
  unfold vagg at HG ⊢
  dsimp only at HG ⊢
  rw [hk] at HG
  have HK := Lib.hid hk
  clear hk hb0 h1 hbx h
  go_enter Try.func22, Try.ntmps22
  go_wp2_with fail
  refine HG.out.mono ?_
  rintro e w2 ⟨rfl, hb⟩
  obtain ⟨h2, t2, b2⟩ := HW2.out w2 hb
  rw [hbxe] at b2
  have d0 : w2.cell? ⟨bx, 0, none⟩ = some (.int .u8 y0) := b2.c 0 _ rfl
  have d1 : w2.cell? ⟨bx, 1, none⟩ = some (.int .i64 y1) := b2.c 1 _ rfl
  have d2 : w2.cell? ⟨bx, 2, none⟩ = some (.int .i64 y2) := b2.c 2 _ rfl
  have hl2 : bx < w2.heap.size := b2.l
  have hl3 : fg < w2.heap.size := h2.blk.l
  obtain ⟨hl4, e0, e1, e2⟩ := h2.cl hi16
  have f0 := h2.blk.f (i * 3)
  have f1 := h2.blk.f (i * 3 + 1)
  have f2 := h2.blk.f (i * 3 + 2)
  have H2 := Lib.hid h2
  have T2 := Lib.hid t2
  have n1 : ¬ fg = bx := by omega
  have i1 : (i : Int) < 16 := by omega
  rw [HK.out] at e0
  clear hb h2 t2 b2 HW2 HG
  generalize F.locs[i].2.1 = x1 at *
  generalize F.locs[i].2.2 = x2 at *
  go_wp2_with fail
  go_region
  go_wp2_with fail
  go_ret
  exact (HFIN.out _ H2.out T2.out).more (below_drew ((Below.refl _ _).alloc (Nat.le_refl _) _))

theorem set_no (h : FrAt W base fg gm nm A cap F) {i : Int} (v : V) (hn : (i < 0 ∨ (F.many : Int) ≤ i) ∨ ∃ j : Nat, i = j ∧ j < F.many ∧ ∃ hl : j < F.locs.length, F.locs[j].1 ≠ v.1) :
    Calls Try.prog 22 #[.pointer (some ⟨fg, 0, none⟩), .int .i64 i, vagg v] W fun e W' => e = .returned (.bool false) ∧ Below W.heap.size W W' := by
  have hb0 : Below W.heap.size W (W.alloc (.cells #[.int .u8 v.1, .int .i64 v.2.1, .int .i64 v.2.2] 37)) := (Below.refl _ _).alloc (Nat.le_refl _) _
  have h1 := h.below hb0
  have hbx := boxed W v
  have hB : Hid (∀ w2, Below (W.alloc (.cells #[.int .u8 v.1, .int .i64 v.2.1, .int .i64 v.2.2] 37)).heap.size (W.alloc (.cells #[.int .u8 v.1, .int .i64 v.2.1, .int .i64 v.2.2] 37)) w2 → Below W.heap.size W w2 ∧ Blk w2 W.heap.size (vc v)) :=
    Lib.hid (fun w2 hb => ⟨below_next hb0 hb, hbx.below hb⟩)
  rcases hn with hn | ⟨j, rfl, hj, hl, hk⟩
  · have HG := Lib.hid (get_no h1 hn)
    obtain ⟨y0, y1, y2⟩ := v
    dsimp only at *
    unfold vagg zv at HG
    unfold vagg
    dsimp only at HG ⊢
    clear hb0 h1 hbx h hn
    go_enter Try.func22, Try.ntmps22
    go_wp2_with fail
    refine HG.out.mono ?_
    rintro e w2 ⟨rfl, hb⟩
    obtain ⟨t2, b2⟩ := hB.out w2 hb
    clear hb b2 HG hB
    have T2 := Lib.hid t2
    clear t2
    go_wp2_with fail
    go_ret
    exact ⟨rfl, T2.out.alloc T2.out.size _⟩
  · have HG := Lib.hid (get_yes h1 hj hl)
    obtain ⟨bx, hbxe⟩ : ∃ bx, W.heap.size = bx := ⟨_, rfl⟩
    obtain ⟨y0, y1, y2⟩ := v
    dsimp only at *
    unfold vagg at HG ⊢
    dsimp only at HG ⊢
    generalize F.locs[j].1 = x0 at *
    generalize F.locs[j].2.1 = x1 at *
    generalize F.locs[j].2.2 = x2 at *
    have hne : (x0 == y0) = false := by rw [beq_eq_false_iff_ne]; exact hk
    clear hb0 h1 hbx h
    go_enter Try.func22, Try.ntmps22
    go_wp2_with fail
    refine HG.out.mono ?_
    rintro e w2 ⟨rfl, hb⟩
    obtain ⟨t2, b2⟩ := hB.out w2 hb
    rw [hbxe] at b2
    have d0 : w2.cell? ⟨bx, 0, none⟩ = some (.int .u8 y0) := b2.c 0 _ rfl
    have hl2 : bx < w2.heap.size := b2.l
    clear hb b2 HG hB
    have T2 := Lib.hid t2
    clear t2
    go_wp2_with fail
    go_ret
    exact ⟨rfl, T2.out.alloc T2.out.size _⟩

/-! Pop -/
theorem pop_no (h : FrAt W base fg gm nm A cap F) (k : Int) (hk0 : 0 ≤ k ∧ k ≤ 255) (hn : F.stk = [] ∨ ∃ l v, F.stk = l ++ [v] ∧ k ≠ 0 ∧ v.1 ≠ k) :
    Calls Try.prog 12 #[.pointer (some ⟨fg, 0, none⟩), .int .u8 k] W fun e W' => e = .returned (.tuple #[vagg zv, .bool false]) ∧ Below W.heap.size W W' := by
  have hb0 : Below W.heap.size W (W.alloc (.cells #[.int .u8 0, .int .i64 0, .int .i64 0] 37)) := (Below.refl _ _).alloc (Nat.le_refl _) _
  have h1 := h.below hb0
  have hB : Hid (∀ w2, Below (W.alloc (.cells #[.int .u8 0, .int .i64 0, .int .i64 0] 37)).heap.size (W.alloc (.cells #[.int .u8 0, .int .i64 0, .int .i64 0] 37)) w2 → Below W.heap.size W w2 ∧ Blk w2 W.heap.size (vc zv)) :=
    Lib.hid (fun w2 hb => ⟨below_next hb0 hb, (boxed W zv).below hb⟩)
  obtain ⟨bx, hbxe⟩ : ∃ bx, W.heap.size = bx := ⟨_, rfl⟩
  have hq : ∃ (x0 x1 x2 : Int) (b : Bool), (b = true → (k != 0) = true ∧ (x0 != k) = true) ∧ Calls Try.prog 13 #[.pointer (some ⟨fg, 0, none⟩)] (W.alloc (.cells #[.int .u8 0, .int .i64 0, .int .i64 0] 37)) fun e W' => e = .returned (.tuple #[.agg #[.int .u8 x0, .int .i64 x1, .int .i64 x2], .bool b]) ∧ Below (W.alloc (.cells #[.int .u8 0, .int .i64 0, .int .i64 0] 37)).heap.size (W.alloc (.cells #[.int .u8 0, .int .i64 0, .int .i64 0] 37)) W' := by
    rcases hn with hn | ⟨l, v, hs, hk, hv⟩
    · exact ⟨_, _, _, _, (fun e => by cases e), top_no h1 hn⟩
    · exact ⟨_, _, _, _, (fun _ => ⟨by rw [bne_iff_ne]; exact hk, by rw [bne_iff_ne]; exact hv⟩), top_yes h1 hs⟩
  obtain ⟨x0, x1, x2, b, hb, HT⟩ := hq
  have HT' := Lib.hid HT
  clear HT
  have HT := HT'
  clear HT'
  unfold vagg zv
  dsimp only
  clear hb0 h1 h hn
  cases b with
  | false =>
    clear hb
    go_enter Try.func12, Try.ntmps12
    go_wp2_with fail
    refine HT.out.mono ?_
    rintro e w2 ⟨rfl, hb⟩
    obtain ⟨t2, b2⟩ := hB.out w2 hb
    rw [hbxe] at b2
    have hl2 : bx < w2.heap.size := b2.l
    have d0 : w2.cell? ⟨bx, 0, none⟩ = some (.int .u8 0) := b2.c 0 _ rfl
    have d1 : w2.cell? ⟨bx, 1, none⟩ = some (.int .i64 0) := b2.c 1 _ rfl
    have d2 : w2.cell? ⟨bx, 2, none⟩ = some (.int .i64 0) := b2.c 2 _ rfl
    have f0 := b2.f 0
    have f1 := b2.f 1
    have f2 := b2.f 2
    have hwb : W.heap.size ≤ bx := by omega
    clear hb b2 HT hB
    have T2 := Lib.hid t2
    clear t2
    go_wp2_with fail
    refine bodyPost_ret (v := .tuple #[.agg #[.int .u8 0, .int .i64 0, .int .i64 0], .bool false]) (by simp [results, Try.results12, go_sem, *]) rfl ⟨rfl, ?_⟩
    exact (((T2.out.setCell (show W.heap.size ≤ bx from hwb) _).setCell (show W.heap.size ≤ bx from hwb) _).setCell (show W.heap.size ≤ bx from hwb) _).alloc (by simpa using T2.out.size) _
  | true =>
    obtain ⟨k1, k2⟩ := hb rfl
    clear hb
    go_enter Try.func12, Try.ntmps12
    go_wp2_with fail
    refine HT.out.mono ?_
    rintro e w2 ⟨rfl, hb⟩
    obtain ⟨t2, b2⟩ := hB.out w2 hb
    rw [hbxe] at b2
    have hl2 : bx < w2.heap.size := b2.l
    have d0 : w2.cell? ⟨bx, 0, none⟩ = some (.int .u8 0) := b2.c 0 _ rfl
    have d1 : w2.cell? ⟨bx, 1, none⟩ = some (.int .i64 0) := b2.c 1 _ rfl
    have d2 : w2.cell? ⟨bx, 2, none⟩ = some (.int .i64 0) := b2.c 2 _ rfl
    have f0 := b2.f 0
    have f1 := b2.f 1
    have f2 := b2.f 2
    have hwb : W.heap.size ≤ bx := by omega
    clear hb b2 HT hB
    have T2 := Lib.hid t2
    clear t2
    go_wp2_with fail
    refine bodyPost_ret (v := .tuple #[.agg #[.int .u8 0, .int .i64 0, .int .i64 0], .bool false]) (by simp [results, Try.results12, go_sem, *]) rfl ⟨rfl, ?_⟩
    exact (((T2.out.setCell (show W.heap.size ≤ bx from hwb) _).setCell (show W.heap.size ≤ bx from hwb) _).setCell (show W.heap.size ≤ bx from hwb) _).alloc (by simpa using T2.out.size) _

def Popped (W : World) (base fg gm nm : Nat) (A : Option Addr) (cap : Nat) (F : Fr) (l : List V) (v : V) (e : Ending) (W' : World) : Prop :=
  e = .returned (.tuple #[vagg v, .bool true]) ∧ Touch (fun b => b = fg) W W' ∧ FrAt W' base fg gm nm A cap { F with stk := l }

set_option maxHeartbeats 1000000 in
theorem pop_yes (h : FrAt W base fg gm nm A cap F) (k : Int) (hk0 : 0 ≤ k ∧ k ≤ 255) {l : List V} {v : V} (hs : F.stk = l ++ [v]) (hk : k = 0 ∨ v.1 = k) :
    Calls Try.prog 12 #[.pointer (some ⟨fg, 0, none⟩), .int .u8 k] W fun e W' => Popped W base fg gm nm A cap F l v e W' := by
  have hb0 : Below W.heap.size W (W.alloc (.cells #[.int .u8 0, .int .i64 0, .int .i64 0] 37)) := (Below.refl _ _).alloc (Nat.le_refl _) _
  have h1 := h.below hb0
  have hB : Hid (∀ w2, Below (W.alloc (.cells #[.int .u8 0, .int .i64 0, .int .i64 0] 37)).heap.size (W.alloc (.cells #[.int .u8 0, .int .i64 0, .int .i64 0] 37)) w2 → Below W.heap.size W w2 ∧ Blk w2 W.heap.size (vc zv) ∧ FrAt w2 base fg gm nm A cap F) :=
    Lib.hid (fun w2 hb => ⟨below_next hb0 hb, (boxed W zv).below hb, h1.below hb⟩)
  have HT := Lib.hid (top_yes h1 hs)
  have hfoot := h.foot
  obtain ⟨bx, hbxe⟩ : ∃ bx, W.heap.size = bx := ⟨_, rfl⟩
  have hlen : F.stk.length = l.length + 1 := by rw [hs]; simp
  have hsl := h.sl
  have HF : Hid (∀ w2 X, Touch (fun _ => False) W w2 → FrAt w2 base fg gm nm A cap F → Touch (fun b => b = bx) (w2.setCell ⟨fg, 49, none⟩ (.slice A l.length cap)) X → Popped W base fg gm nm A cap F l v (.returned (.tuple #[vagg v, .bool true])) X) := by
    apply Lib.hid
    intro w2 X t h2 tx
    have hr := h2.row
    have e3 : vcs F.stk = vcs l ++ vc v := by rw [hs, vcs_append]; rfl
    rw [e3, hlen] at hr
    obtain ⟨g, rfl, -⟩ := h2.stk (i := l.length) (by omega)
    have hr2 := ownsRow_pop (vcs_length l) hr
    obtain ⟨t3, h3⟩ := h2.restack (Touch.refl (fun _ => False) w2) (fun e => e) (fun e => e) (by omega) (fun u hu => h2.so u (by rw [hs]; exact List.mem_append_left _ hu)) hr2 rfl
    refine ⟨rfl, ?_, h3.touch tx (fun b hb e => by have := hfoot b hb; omega)⟩
    refine ((t.mono (fun _ _ e => e.elim)).trans t3).trans' tx (fun j hj e => by omega)
  obtain ⟨g, rfl, hgb, hgl, hcap, -⟩ := h.stk (i := l.length) (by omega)
  rw [hlen] at hcap
  have hcond : ((k != 0) = false) ∨ ((k != 0) = true ∧ (v.1 != k) = false) := by
    by_cases e : k = 0
    · exact .inl (by simp [e])
    · refine .inr ⟨by rw [bne_iff_ne]; exact e, by rcases hk with hk | hk; exact absurd hk e; simp [hk]⟩
  have hfgl := h.blk.l
  obtain ⟨x0, x1, x2⟩ := v
  unfold vagg at HT HF
  dsimp only at HT HF hcond
  generalize hq : l.length = q at *
  have q1 : (q : Int) ≤ 256 := by omega
  have q2 : (q : Int) ≤ (cap : Int) := by omega
  have q3 : q ≤ cap := by omega
  have HS := Lib.hid hs
  have HLEN := Lib.hid hlen
  have HQ := Lib.hid hq
  clear hb0 h1 h hs hk hlen hsl hcap hfoot hq
  rcases hcond with hcond | ⟨hcond, hcond2⟩
  all_goals
    go_enter Try.func12, Try.ntmps12
    go_wp2_with fail
    refine HT.out.mono ?_
    rintro e w2 ⟨rfl, hb⟩
    obtain ⟨t2, b2, h2⟩ := hB.out w2 hb
    rw [hbxe] at b2
    have hl2 : bx < w2.heap.size := b2.l
    have d0 : w2.cell? ⟨bx, 0, none⟩ = some (.int .u8 0) := b2.c 0 _ rfl
    have d1 : w2.cell? ⟨bx, 1, none⟩ = some (.int .i64 0) := b2.c 1 _ rfl
    have d2 : w2.cell? ⟨bx, 2, none⟩ = some (.int .i64 0) := b2.c 2 _ rfl
    have f0 := b2.f 0
    have f1 := b2.f 1
    have f2 := b2.f 2
    have c49 := h2.c49
    rw [HLEN.out] at c49
    have f49 := h2.blk.f 49
    have hl3 := h2.blk.l
    have hne : ¬ fg = bx := by omega
    have hne2 : ¬ bx = fg := by omega
    have hwb : W.heap.size ≤ bx := by omega
    clear hb b2 HT hB hbxe
    have T2 := Lib.hid (Touch.of_below t2 (Nat.le_refl _) (fun _ => False))
    have H2 := Lib.hid h2
    clear t2 h2
    go_wp2_with fail
    go_region
    go_wp2_with fail
    refine bodyPost_ret (v := .tuple #[.agg #[.int .u8 x0, .int .i64 x1, .int .i64 x2], .bool true]) (by simp [results, Try.results12, go_sem, *]) rfl ?_
    refine HF.out w2 _ T2.out H2.out ?_
    exact (((((Touch.refl (fun b => b = bx) _).setCell _ _ (fun _ => rfl)).setCell _ _ (fun _ => rfl)).setCell _ _ (fun _ => rfl)).alloc _).drew

/-! Push -/
theorem info37 : (Try.prog.info? 37).map (fun i => (i.zero, i.size, i.bytes)) = some (some (.agg #[.int .u8 0, .int .i64 0, .int .i64 0]), 3, 24) := by kernel_rfl
theorem fr_parts {i? : Option TypeInfo} {z : Value} {s b : Nat} (h : i?.map (fun i => (i.zero, i.size, i.bytes)) = some (some z, s, b)) : ∃ i, i? = some i ∧ i.zero = some z ∧ i.size = s ∧ i.bytes = b := by
  cases i? with
  | none => cases h
  | some i => simp at h; exact ⟨i, rfl, h⟩
def PushedTo (W : World) (base fg gm nm : Nat) (A : Option Addr) (cap : Nat) (F : Fr) (v : V) (e : Ending) (W' : World) : Prop :=
  ∃ A' cap', e = .returned (.bool true) ∧ Touch (fun b => b = fg ∨ ∃ a : Addr, A = some a ∧ b = a.block) W W' ∧ (∀ a : Addr, A' = some a → W.heap.size ≤ a.block ∨ ∃ a0 : Addr, A = some a0 ∧ a.block = a0.block) ∧ FrAt W' base fg gm nm A' cap' { F with stk := F.stk ++ [v] }

theorem push_no (h : FrAt W base fg gm nm A cap F) (v : V) (hv : VOk v) (hn : kindB v.1 = false ∨ 256 ≤ F.many + F.stk.length) :
    Calls Try.prog 11 #[.pointer (some ⟨fg, 0, none⟩), vagg v] W fun e W' => e = .returned (.bool false) ∧ Below W.heap.size W W' := by
  have hb0 : Below W.heap.size W (W.alloc (.cells #[.int .u8 v.1, .int .i64 v.2.1, .int .i64 v.2.2] 37)) := (Below.refl _ _).alloc (Nat.le_refl _) _
  have h1 := h.below hb0
  have hc := h.c51
  have hlt := h.blk.l
  have HN := Lib.hid (none_al fg gm W (.cells #[.int .u8 v.1, .int .i64 v.2.1, .int .i64 v.2.2] 37) hlt hc)
  have HK := Lib.hid (fun W => kind_any v.1 W hv.1.1 hv.1.2)
  have HZ := Lib.hid (size_at h1)
  obtain ⟨y0, y1, y2⟩ := v
  unfold vagg
  dsimp only at *
  by_cases hk : kindB y0 = false
  · rw [hk] at HK
    clear hn hv h h1 hk
    go_enter Try.func11, Try.ntmps11
    go_wp2_with fail
    refine HN.out.mono ?_
    rintro e w1 ⟨rfl, rfl⟩
    go_wp2_with fail
    refine (HK.out _).mono ?_
    rintro e w1 ⟨rfl, rfl⟩
    go_wp2_with fail
    go_ret
    exact ⟨rfl, hb0⟩
  · have hk2 : kindB y0 = true := by simpa using hk
    have hsz : 256 ≤ F.many + F.stk.length := by
      rcases hn with hn | hn
      · exact absurd hn hk
      · exact hn
    have hz : (256 : Int) ≤ (F.many : Int) + (F.stk.length : Int) := by omega
    rw [hk2] at HK
    generalize F.many = m at *
    generalize F.stk.length = n at *
    have HB0 := Lib.hid hb0
    clear hn hv h h1 hk hk2 hsz hb0
    go_enter Try.func11, Try.ntmps11
    go_wp2_with fail
    refine HN.out.mono ?_
    rintro e w1 ⟨rfl, rfl⟩
    go_wp2_with fail
    refine (HK.out _).mono ?_
    rintro e w1 ⟨rfl, rfl⟩
    go_wp2_with fail
    refine HZ.out.mono ?_
    rintro e w1 ⟨rfl, nk, rfl⟩
    go_wp2_with fail
    go_ret
    exact ⟨rfl, below_drewN HB0.out _⟩

theorem three_new (w : World) (a b c : Value) (t : TypeId) : ∀ j u, [a, b, c][j]? = some u → (w.alloc (.cells #[a, b, c] t)).cell? ((⟨w.heap.size, 0, none⟩ : Addr).add j) = some u := by
  intro j u hj
  match j, hj with
  | 0, hj => simp at hj; subst hj; simp [Addr.add]
  | 1, hj => simp at hj; subst hj; simp [Addr.add]
  | 2, hj => simp at hj; subst hj; simp [Addr.add]
  | j + 3, hj => simp at hj
theorem three_one (a b c : Int) : ∀ u ∈ [Value.int .u8 a, .int .i64 b, .int .i64 c], u.oneCell' = true := by
  intro u hu
  simp at hu
  rcases hu with rfl | rfl | rfl <;> rfl
theorem push_end (h : FrAt W base fg gm nm A cap F) (v : V) (hv : VOk v) (hn : F.many + F.stk.length < 256) {w' : World} {g' cap' : Nat}
    (hown : w'.ownsRow base 37 3 (.slice (some ⟨g', 0, none⟩) (F.stk.length + 1) cap') (F.stk.length + 1) (vcs F.stk ++ [.int .u8 v.1, .int .i64 v.2.1, .int .i64 v.2.2]))
    (ht : Touch (fun b => ∃ a : Addr, A = some a ∧ b = a.block) W w') (hor : (∃ a0 : Addr, A = some a0 ∧ g' = a0.block) ∨ W.heap.size ≤ g') :
    PushedTo W base fg gm nm A cap F v (.returned (.bool true)) (w'.setCell ⟨fg, 49, none⟩ (.slice (some ⟨g', 0, none⟩) (F.stk.length + 1) cap')) := by
  have hrow := h.rowBase
  have e1 : (F.stk ++ [v]).length = F.stk.length + 1 := by simp
  have e2 : vcs (F.stk ++ [v]) = vcs F.stk ++ [.int .u8 v.1, .int .i64 v.2.1, .int .i64 v.2.2] := by rw [vcs_append]; rfl
  rw [← e1, ← e2] at hown
  rw [← e1]
  obtain ⟨t2, h2⟩ := h.restack ht (by rintro ⟨a, e, e3⟩; have := (hrow a e).1; have := h.b1; omega) (by rintro ⟨a, e, e3⟩; have := (hrow a e).1; have := h.b2; omega) (by omega)
    (fun u hu => by rcases List.mem_append.1 hu with hu | hu; exact h.so u hu; rw [List.mem_singleton] at hu; rw [hu]; exact hv) hown rfl
  refine ⟨some ⟨g', 0, none⟩, cap', rfl, (ht.mono (fun _ _ e => .inr e)).trans (t2.mono (fun _ _ e => .inl e)), ?_, h2⟩
  intro a e
  injection e with e
  subst e
  rcases hor with ho | ho
  · exact .inr ho
  · exact .inl ho
theorem PushedTo.more {v : V} {e : Ending} {W1 W2 : World} (h : PushedTo W base fg gm nm A cap F v e W1) (hb : Below W1.heap.size W1 W2) : PushedTo W base fg gm nm A cap F v e W2 := by
  obtain ⟨A', cap', h1, h2, h3, h4⟩ := h
  exact ⟨A', cap', h1, h2.trans (Touch.of_below hb (Nat.le_refl _) _), h3, h4.below hb⟩

set_option maxRecDepth 100000 in
set_option maxHeartbeats 1000000 in
theorem push_yes (h : FrAt W base fg gm nm A cap F) (v : V) (hv : VOk v) (hk : kindB v.1 = true) (hn : F.many + F.stk.length < 256) :
    Calls Try.prog 11 #[.pointer (some ⟨fg, 0, none⟩), vagg v] W fun e W' => PushedTo W base fg gm nm A cap F v e W' := by
  obtain ⟨i37, hi, hz0, hz1, hz2⟩ := fr_parts info37
  have hb0 : Below W.heap.size W (W.alloc (.cells #[.int .u8 v.1, .int .i64 v.2.1, .int .i64 v.2.2] 37)) := (Below.refl _ _).alloc (Nat.le_refl _) _
  have h1 := h.below hb0
  have hc := h.c51
  have hlt := h.blk.l
  have hbx := boxed W v
  have HN := Lib.hid (none_al fg gm W (.cells #[.int .u8 v.1, .int .i64 v.2.1, .int .i64 v.2.2] 37) hlt hc)
  have HK := Lib.hid (fun W => kind_any v.1 W hv.1.1 hv.1.2)
  rw [hk] at HK
  have HZ := Lib.hid (size_at h1)
  have hz : (F.many : Int) + (F.stk.length : Int) < 256 := by omega
  have hz' : (0 : Int) ≤ (F.many : Int) + (F.stk.length : Int) := by omega
  have HPE := Lib.hid (fun w' g' cap' => push_end h v hv hn (w' := w') (g' := g') (cap' := cap'))
  have H := Lib.hid h
  have hrow := h.rowBase
  have HROW := Lib.hid hrow
  obtain ⟨y0, y1, y2⟩ := v
  unfold vagg
  dsimp only at *
  have HW : Hid (∀ nk, ∃ WR, ((W.alloc (.cells #[.int .u8 y0, .int .i64 y1, .int .i64 y2] 37)).drewN nk) = WR ∧ FrAt WR base fg gm nm A cap F ∧ Touch (fun _ => False) W WR ∧ Blk WR W.heap.size (vc (y0, y1, y2)) ∧ W.heap.size ≤ WR.heap.size) :=
    Lib.hid (fun nk => ⟨_, rfl, h1.touch ((Touch.refl (fun _ => False) _).drewN nk) (fun _ _ e => e), (Touch.of_below hb0 (Nat.le_refl _) _).drewN nk, hbx.drewN nk, hb0.size⟩)
  obtain ⟨bx, hbxe⟩ : ∃ bx, W.heap.size = bx := ⟨_, rfl⟩
  have hne : ¬ fg = bx := by omega
  have hsl := h.sl
  have hmn := h.ml
  generalize hm : F.many = m at *
  generalize hnn : F.stk.length = n at *
  have HNN := Lib.hid hnn
  have n1 : (n : Int) ≤ 256 := by omega
  have n2 : n ≤ 256 := by omega
  clear hb0 h1 hc hbx h hk hn hm hnn hrow hv hsl hmn
  go_enter Try.func11, Try.ntmps11
  go_wp2_with fail
  refine HN.out.mono ?_
  rintro e w1 ⟨rfl, rfl⟩
  go_wp2_with fail
  refine (HK.out _).mono ?_
  rintro e w1 ⟨rfl, rfl⟩
  go_wp2_with fail
  refine HZ.out.mono ?_
  rintro e w1 ⟨rfl, nk, rfl⟩
  obtain ⟨WR, hWR, h2, t2, b2, s2⟩ := HW.out nk
  rw [hWR]
  rw [hbxe] at b2 s2
  have d0 : WR.cell? ⟨bx, 0, none⟩ = some (.int .u8 y0) := b2.c 0 _ rfl
  have d1 : WR.cell? ⟨bx, 1, none⟩ = some (.int .i64 y1) := b2.c 1 _ rfl
  have d2 : WR.cell? ⟨bx, 2, none⟩ = some (.int .i64 y2) := b2.c 2 _ rfl
  have hl2 : bx < WR.heap.size := b2.l
  have c49 := h2.c49
  rw [HNN.out] at c49
  have f49 := h2.blk.f 49
  have hl3 := h2.blk.l
  have hbs := h2.bs
  have hrow2 := h2.row
  rw [HNN.out] at hrow2
  have hb1 := h2.b1
  have HR2 := Lib.hid hrow2
  have T2 := Lib.hid t2
  have C49 := Lib.hid c49
  have F49 := Lib.hid f49
  have hnm : n + 1 ≤ maxLen := by unfold maxLen; omega
  have hnb : (n + 1) * 24 ≤ 140737488355328 := by omega
  have HBX := Lib.hid hbxe
  clear hWR h2 t2 b2 HW HN HK HZ hrow2 hbxe
  go_wp2_with fail
  have hBW : Below WR.heap.size WR (WR.alloc (.cells #[.int .u8 y0, .int .i64 y1, .int .i64 y2] 37)).drew := below_drew ((Below.refl _ _).alloc (Nat.le_refl _) _)
  have CW := Lib.hid ((hBW.cell (p := ⟨fg, 49, none⟩) hl3).trans C49.out)
  have FW := Lib.hid ((hBW.frozen (p := ⟨fg, 49, none⟩) hl3).trans F49.out)
  have BW := Lib.hid hBW
  clear hBW
  go_region_law (refine step_append_own rfl (.tmp 22) (.tmp 24) 35 rfl base 37 i37 (.agg #[.int .u8 0, .int .i64 0, .int .i64 0]) 3 24 Try.underlying35 hi hz0 hz1 hz2 rfl (by decide) (.slice A n cap) n (vcs F.stk) (by simp [Act.eval, Act.put]) ((HR2.out.alloc _).drew) ⟨WR.heap.size, 0, none⟩ 1 1 [.int .u8 y0, .int .i64 y1, .int .i64 y2] (by simp [Act.eval, Act.put]) rfl (three_new WR (.int .u8 y0) (.int .i64 y1) (.int .i64 y2) 37) (three_one _ _ _) hnm hnb (by simp; omega) ?_; intro v' w' hown hgrow hor; obtain ⟨g', cap', rfl, hg1, hg2⟩ := World.ownsRow.form hown (by omega); have hfr : some fg ≠ (Value.slice A n cap).ownBlock := (by intro e; cases A with | none => cases e | some a => injection e with e; have := (HROW.out a rfl).1; omega); have hbl' := hgrow.block fg (by simp; omega) hfr; have hc' := (World.cell?_of_block (a := ⟨fg, 49, none⟩) hbl').trans CW.out; have hf' := (World.frozen?_of_block (a := ⟨fg, 49, none⟩) hbl').trans FW.out; have HOWN := Lib.hid hown; have HGROW := Lib.hid hgrow; have HOR := Lib.hid hor; clear hown hgrow hor hbl')
  all_goals
    go_wp2_with fail
    go_ret
    refine HPE.out w' g' cap' HOWN.out ?_ ?_
    · refine ((T2.out.mono (fun _ _ e => e.elim)).trans' (Touch.of_below BW.out (Nat.le_refl _) (fun b => ∃ a : Addr, A = some a ∧ b = a.block)) (fun _ _ e => e)).grown HGROW.out (fun k e _ => ?_)
      cases A with
      | none => cases e
      | some a => exact ⟨a, rfl, by injection e with e; exact e.symm⟩
    · have hs2 := BW.out.size
      rcases HOR.out with e | e
      · cases A with
        | none => cases e
        | some a => exact .inl ⟨a, rfl, by injection e⟩
      · have e : g' = (WR.alloc (.cells #[.int .u8 y0, .int .i64 y1, .int .i64 y2] 37)).drew.heap.size := by injection e
        have := HBX.out
        exact .inr (by omega)
end
end Go.Proofs.Ythllfeogchbihaa
