/- Parts of the walk, joined. -/
import Derived.Test.YtkhgpeejmbfmjaaPart02
import Derived.RangeFuncBox
import Derived.OneCell
import Derived.Deep.AppendLies
import Derived.Deep.Onto
/- Heaps (package heap): Make, where there is room. -/
namespace Go.Proofs.Ytkhgpeejmbfmjaa.Hp
open Go.RowKit Go.Shelf
set_option linter.unusedSimpArgs false
set_option linter.unusedVariables false
set_option maxRecDepth 100000

theorem heap_made {w W' : World} {gh gw base room : Nat} {arrs : List (List Int)} {A A' : Option Addr} {cap cap' n : Nat} (h : HeapAt w gh gw base room arrs A cap) (hf : arrs.flatten.length + n ≤ room) (hl : arrs.length < 30000)
    {S : Nat → Prop} (t : Touch S w W') (hs : ¬ S gw) (hb : Blk W' gh [.slice (some ⟨gw, 0, none⟩) room room, .slice A' (arrs.length + 1) cap', .bool true])
    {ad : Option Addr} (had : ad = some ⟨gw, if n = 0 then 0 else arrs.flatten.length, none⟩)
    (hr : W'.ownsRow base 74 1 (.slice A' (arrs.length + 1) cap') (arrs.length + 1) ((svs gw arrs).map svV ++ [.slice ad n n])) :
    HeapAt W' gh gw base room (arrs ++ [List.replicate n 0]) A' cap' := by
  subst had
  refine ⟨by simpa using hb, ?_, h.rm, by rw [List.flatten_append, List.length_append]; simpa using hf, by rw [List.length_append]; simp; omega, ?_, h.b1, h.b2, h.ne, Nat.le_trans h.bs t.size⟩
  · rw [words_make hf]
    exact h.hw.touch t hs
  · rw [svs_make]
    simpa [svV] using hr

theorem make_ok {W : World} {gh gw base room : Nat} {arrs : List (List Int)} {A : Option Addr} {cap : Nat} (h : HeapAt W gh gw base room arrs A cap) (n : Nat) (hn : n ≤ 1024) (hf : arrs.flatten.length + n ≤ room) (hl : arrs.length < 30000) :
    Calls Try.prog 67 #[.pointer (some ⟨gh, 0, none⟩), .int .i64 n] W fun e W' => MadeArr W gh gw base room arrs A n e W' := by
  obtain ⟨i25, hi, hz0, hz1, hz2⟩ := hp_parts info25
  have hu := used_at h
  have H := Lib.hid h
  have hsm := h.sm
  have hrm := h.rm
  obtain ⟨L, hL⟩ : ∃ L, arrs.flatten.length = L := ⟨_, rfl⟩
  obtain ⟨q, hq⟩ : ∃ q, arrs.length = q := ⟨_, rfl⟩
  rw [hL] at hu hsm hf
  rw [hq] at hl
  have HL := Lib.hid hL
  have HQ := Lib.hid hq
  have HU := Lib.hid hu
  have h1 : (n : Int) ≤ 1024 := by omega
  have h2 : (0 : Int) ≤ (n : Int) := by omega
  have h3 : (n : Int) ≤ (room : Int) - (L : Int) := by omega
  have h4 : (room : Int) ≤ 1024 := by omega
  have h5 : (L : Int) ≤ (room : Int) := by omega
  have h6 : (L : Int) + (n : Int) ≤ (room : Int) := by omega
  have h7 : (q : Int) ≤ 30000 := by omega
  clear hu h hL hq
  go_enter Try.func67, Try.ntmps67
  go_wp2_with fail
  refine HU.out.mono ?_
  rintro e w1 ⟨rfl, hb⟩
  have hat := H.out.below hb
  have c0 : w1.cell? ⟨gh, 0, none⟩ = some (.slice (some ⟨gw, 0, none⟩) room room) := hat.hb.c 0 _ rfl
  have c1 : w1.cell? ⟨gh, 1, none⟩ = some (.slice A q cap) := by rw [← HQ.out]; exact hat.hb.c 1 _ rfl
  have c2 : w1.cell? ⟨gh, 2, none⟩ = some (.bool true) := hat.hb.c 2 _ rfl
  have f1 : w1.frozen? ⟨gh, 1, none⟩ = false := hat.hb.f 1
  have HAT := Lib.hid hat
  have HB := Lib.hid hb
  clear hat hb
  go_wp2_with fail
  have k1 : (0 : Int) ≤ (L : Int) + (n : Int) := by omega
  have k2 : ((L : Int) + (n : Int)).toNat = L + n := by omega
  have k3 : (L : Int) + (n : Int) ≤ max ((L : Int) + (n : Int)) 0 := by omega
  have k4 : L ≤ L + n := by omega
  have k5 : L + n - L = n := by omega
  obtain ⟨ad, had⟩ : ∃ ad : Option Addr, (if L + n = L then some ⟨gw, 0, none⟩ else some ⟨gw, L, none⟩) = ad := ⟨_, rfl⟩
  have had2 : (if n = 0 then some ⟨gw, 0, none⟩ else some ⟨gw, L, none⟩) = ad := by
    rw [← had]
    by_cases e : n = 0
    · rw [if_pos e, if_pos (by omega)]
    · rw [if_neg e, if_neg (by omega)]
  have HAD : Hid (ad = some ⟨gw, if n = 0 then 0 else L, none⟩) := by
    apply Lib.hid
    rw [← had2]
    split <;> rfl
  have hqm : q + 1 ≤ maxLen := by unfold maxLen; omega
  have hqb : (q + 1) * 24 ≤ 140737488355328 := by omega
  by_cases hcp : q + 1 ≤ cap
  · obtain ⟨g, rfl, hgb, hgc, hgf, hgl⟩ : ∃ g, A = some ⟨g, 0, none⟩ ∧ base ≤ g ∧ (∃ x, w1.cell? ⟨g, q, none⟩ = some x) ∧ w1.frozen? ⟨g, q, none⟩ = false ∧ g < w1.heap.size := by
      obtain ⟨-, hr⟩ := HAT.out.row
      rcases hr with ⟨e, e2⟩ | ⟨g, c, cur, e, hb, hc, h8, h9, h10, -⟩
      · injection e with e3 e4 e5; omega
      · injection e with e3 e4 e5
        refine ⟨g, e3, hb, ⟨cur[q]'(by omega), ?_⟩, ?_, (Array.getElem?_eq_some_iff.1 hc).1⟩
        · unfold World.cell?
          simp only [hc]
          simp
        · unfold World.frozen?
          simp only [hc]
          simp
    obtain ⟨x0, hx0⟩ := hgc
    have hng : ¬ gh = g := by have := HAT.out.b1; omega
    have hng' : ¬ g = gh := fun e => hng e.symm
    have hghl : gh < w1.heap.size := HAT.out.hb.l
    go_region
    obtain ⟨W', hW'⟩ : ∃ W', (((w1.setCell ⟨g, q, none⟩ (.slice ad n n)).setCell ⟨gh, 1, none⟩ (.slice (some ⟨g, 0, none⟩) (q + 1) cap)).alloc (.cells #[.slice ad n n] 74)).drew = W' := ⟨_, rfl⟩
    have hmd : Hid (Touch (fun k => k = gh ∨ ∃ a : Addr, (some (⟨g, 0, none⟩ : Addr)) = some a ∧ k = a.block) W W' ∧ HeapAt W' gh gw base room (arrs ++ [List.replicate n 0]) (some ⟨g, 0, none⟩) cap) := by
      apply Lib.hid
      have hat := HAT.out
      have ht0 : Touch (fun k => k = gh ∨ ∃ a : Addr, (some (⟨g, 0, none⟩ : Addr)) = some a ∧ k = a.block) w1 W' := by
        rw [← hW']
        exact ((((Touch.refl _ _).setCell _ _ (fun _ => .inr ⟨_, rfl, rfl⟩)).setCell _ _ (fun _ => .inl rfl)).alloc _).drew
      refine ⟨(Touch.of_below HB.out (Nat.le_refl _) _).trans' ht0 (fun _ _ e => e), ?_⟩
      have hgw : ¬ gw = g := by have := hat.b2; omega
      refine heap_made (ad := ad) hat (by rw [HL.out]; exact hf) (by rw [HQ.out]; exact hl) ht0 ?_ ?_ (by rw [HL.out]; exact HAD.out) ?_
      · rintro (e | ⟨a, e, e2⟩)
        · exact hat.ne e.symm
        · injection e with e; subst e; exact hgw e2
      · rw [← hW', HQ.out]
        have hb0 := hat.hb
        exact (((hb0.other hng' q _).set (j := 1) rfl _).alloc _).drew
      · rw [← hW', HQ.out]
        have hr0 := row_push (v := .slice ad n n) (HQ.out ▸ hat.row) (show q < cap by omega)
        exact ((ownsRow_setCell_other hr0 (a := ⟨gh, 1, none⟩) (by show some g ≠ some gh; intro e; injection e with e; exact hng' e) _).alloc _).drew
    rw [hW']
    have c1' : W'.cell? ⟨gh, 1, none⟩ = some (.slice (some ⟨g, 0, none⟩) (q + 1) cap) := by
      rw [← HQ.out]
      have := hmd.out.2.hb.c 1 _ rfl
      simpa using this
    clear hW'
    go_wp2_with fail
    go_ret2
    refine ⟨_, _, ?_, hmd.out.1, .inl rfl, hmd.out.2⟩
    rw [HQ.out]
    rfl
  · have OLD : Hid (∀ b, A = some b → ∀ j u, ((svs gw arrs).map svV)[j]? = some u → (b.add j).block < w1.heap.size ∧ w1.cell? (b.add j) = some u) := by
      apply Lib.hid
      intro b hb j u hj
      subst hb
      have hr := HAT.out.row
      rcases hr.2 with ⟨e, -⟩ | ⟨g, c, cur, e, hb, hc, h8⟩
      · injection e with e; cases e
      · injection e with e; injection e with e; subst e
        exact ⟨by have := (Array.getElem?_eq_some_iff.1 hc).1; unfold Addr.add; split <;> exact this, hr.cells rfl j u hj⟩
    have hnil : A = none → q = 0 ∧ cap = 0 := by
      intro e
      subst e
      have hr := HAT.out.row
      rw [HQ.out] at hr
      rcases hr.2 with ⟨e, e2⟩ | ⟨g, c, cur, e, hb, hc, h8⟩
      · injection e with e1 e2 e3; exact ⟨e2, e3⟩
      · injection e with e; cases e
    have hql : ((svs gw arrs).map svV).length = q := by rw [List.length_map, svs_length, HQ.out]
    generalize holds : (svs gw arrs).map svV = olds at hql OLD
    have HOLDS := Lib.hid holds
    clear holds
    have hghl : gh < w1.heap.size := HAT.out.hb.l
    have hghb : gh < base := HAT.out.b1
    have hbw : base ≤ w1.heap.size := HAT.out.bs
    have hng : ¬ gh = w1.heap.size := by omega
    have hcW : (w1.alloc (.cells #[.slice ad n n] 74)).drew.cell? ⟨w1.heap.size, 0, none⟩ = some (.slice ad n n) := by simp
    have hBW : Below w1.heap.size w1 (w1.alloc (.cells #[.slice ad n n] 74)).drew := by
      have h := (Below.refl w1.heap.size w1).alloc (Nat.le_refl _) (.cells #[.slice ad n n] 74)
      exact ⟨h.os, h.tape, h.output, h.size, h.block⟩
    have BW := Lib.hid hBW
    have CW := Lib.hid hcW
    clear hBW hcW
    go_region_law (refine step_append_grows rfl (.tmp 17) (.tmp 26) 78 rfl 74 i25 (.slice none 0 0) 1 24 Try.underlying78 hi hz0 hz1 hz2 rfl (by decide) A q cap olds (by simp [Act.eval, Act.put]) hnil (by omega) (by intro b hb j u hj; obtain ⟨h3, h4⟩ := OLD.out b hb j u hj; rw [← h4]; exact BW.out.cell (p := b.add j) h3) ⟨w1.heap.size, 0, none⟩ 1 1 [.slice ad n n] (by simp [Act.eval, Act.put]) rfl (by intro j u hj; obtain ⟨hj, e⟩ := List.getElem?_eq_some_iff.1 hj; have hj0 : j = 0 := (by simpa using hj); subst hj0; rw [← e]; exact CW.out) (by intro u hu; rw [List.mem_singleton] at hu; subst hu; rfl) (by omega) hqm hqb ?_; intro v' w' hown hgrow; obtain ⟨g', cap', rfl, hg1, hg2⟩ := World.ownsRow.form hown (by omega); have hbl' := (hgrow.block gh (Nat.lt_of_lt_of_le hghl BW.out.size) (by simp)).trans (BW.out.block gh hghl); have hc' := (World.cell?_of_block (a := ⟨gh, 1, none⟩) hbl').trans c1; have hf' := (World.frozen?_of_block (a := ⟨gh, 1, none⟩) hbl').trans f1; have HOWN := Lib.hid hown; have HGROW := Lib.hid hgrow; clear hown hgrow hbl')
    all_goals
      obtain ⟨W', hW'⟩ : ∃ W', w'.setCell ⟨gh, 1, none⟩ (.slice (some ⟨g', 0, none⟩) (q + 1) cap') = W' := ⟨_, rfl⟩
      have hmd : Hid (Touch (fun k => k = gh ∨ ∃ a : Addr, A = some a ∧ k = a.block) W W' ∧ HeapAt W' gh gw base room (arrs ++ [List.replicate n 0]) (some ⟨g', 0, none⟩) cap' ∧ W.heap.size ≤ g') := by
        apply Lib.hid
        have hat := HAT.out
        have ht0 : Touch (fun k => k = gh) w1 w' := (Touch.of_below BW.out (Nat.le_refl _) _).grown HGROW.out (fun k e => by cases e)
        have ht1 : Touch (fun k => k = gh) w1 W' := by
          rw [← hW']
          exact ht0.setCell _ _ (fun _ => rfl)
        have hsz := HB.out.size
        have hsz2 := BW.out.size
        have hown := HOWN.out
        refine ⟨(Touch.of_below HB.out (Nat.le_refl _) _).trans' ht1 (fun _ _ e => .inl e), ?_, by omega⟩
        refine heap_made (ad := ad) hat (by rw [HL.out]; exact hf) (by rw [HQ.out]; exact hl) ht1 (fun e => hat.ne e.symm) ?_ (by rw [HL.out]; exact HAD.out) ?_
        · rw [← hW', HQ.out]
          have hb1 := (hat.hb.touch (Touch.of_below BW.out (Nat.le_refl _) (fun _ => False)) (fun e => e)).touch ((Touch.refl (fun _ => False) _).grown HGROW.out (fun k e => by cases e)) (fun e => e)
          exact hb1.set (j := 1) rfl _
        · rw [← hW', HQ.out, HOLDS.out]
          refine ownsRow_setCell_other (hown.mono (by omega)) (a := ⟨gh, 1, none⟩) ?_ _
          show some g' ≠ some gh
          intro e
          injection e with e
          omega
      rw [hW']
      have c1' : W'.cell? ⟨gh, 1, none⟩ = some (.slice (some ⟨g', 0, none⟩) (q + 1) cap') := by
        rw [← HQ.out]
        have := hmd.out.2.1.hb.c 1 _ rfl
        simpa using this
      clear hW'
      go_wp2_with fail
      go_ret2
      refine ⟨_, _, ?_, hmd.out.1, .inr fun a e => ?_, hmd.out.2.1⟩
      · rw [HQ.out]
        rfl
      · injection e with e
        subst e
        exact hmd.out.2.2

end Go.Proofs.Ytkhgpeejmbfmjaa.Hp
/- Heaps (package heap): one contract for Make; a heap that was made behind a world. -/
namespace Go.Proofs.Ytkhgpeejmbfmjaa.Hp
open Go.RowKit Go.Shelf
set_option linter.unusedSimpArgs false
set_option linter.unusedVariables false
set_option maxRecDepth 100000

/-- Is there room for n words? -/
def fitsB (room : Nat) (arrs : List (List Int)) (n : Int) : Bool := decide (0 ≤ n ∧ n ≤ 1024 ∧ (arrs.flatten.length : Int) + n ≤ room)
/-- What Make answers, and what the arrays are then. -/
def mkRef (room : Nat) (arrs : List (List Int)) (n : Int) : Int := if fitsB room arrs n then arrs.length + 1 else 0
def mkErr (room : Nat) (arrs : List (List Int)) (n : Int) : Int := if n < 0 ∨ 1024 < n then 2 else if fitsB room arrs n then 0 else 4
def mkArrs (room : Nat) (arrs : List (List Int)) (n : Int) : List (List Int) := if fitsB room arrs n then arrs ++ [List.replicate n.toNat 0] else arrs
theorem mkErr_zero (room : Nat) (arrs : List (List Int)) (n : Int) : mkErr room arrs n = 0 ↔ fitsB room arrs n = true := by
  unfold mkErr
  by_cases h : n < 0 ∨ 1024 < n
  · have : fitsB room arrs n = false := decide_eq_false (by omega)
    simp [h, this]
  · rw [if_neg h]
    split <;> simp_all

/-- The blocks that Make may change. -/
def FM (gh : Nat) (A : Option Addr) : Nat → Prop := fun k => k = gh ∨ ∃ a : Addr, A = some a ∧ k = a.block

theorem make_at {W : World} {gh gw base room : Nat} {arrs : List (List Int)} {A : Option Addr} {cap : Nat} (h : HeapAt W gh gw base room arrs A cap) (n : Int) (hl : arrs.length < 30000) :
    Calls Try.prog 67 #[.pointer (some ⟨gh, 0, none⟩), .int .i64 n] W fun e W' => ∃ A' cap', e = .returned (.tuple #[.int .i64 (mkRef room arrs n), .int .i64 (mkErr room arrs n)]) ∧ Touch (FM gh A) W W' ∧
      (A' = A ∨ ∀ a : Addr, A' = some a → W.heap.size ≤ a.block) ∧ HeapAt W' gh gw base room (mkArrs room arrs n) A' cap' := by
  by_cases h1 : n < 0 ∨ 1024 < n
  · refine (make_arg h n h1).mono ?_
    rintro e W' ⟨rfl, hb⟩
    have hf : fitsB room arrs n = false := decide_eq_false (by omega)
    refine ⟨A, cap, by simp [mkRef, mkErr, hf, h1], Touch.of_below hb (Nat.le_refl _) _, .inl rfl, ?_⟩
    unfold mkArrs
    rw [hf]
    exact h.below hb
  · obtain ⟨k, rfl⟩ := Int.eq_ofNat_of_zero_le (show 0 ≤ n by omega)
    by_cases h2 : room < arrs.flatten.length + k
    · refine (make_full h k (by omega) h2).mono ?_
      rintro e W' ⟨rfl, hb⟩
      have hf : fitsB room arrs (k : Int) = false := decide_eq_false (by omega)
      refine ⟨A, cap, by simp only [mkRef, mkErr, hf, if_neg h1]; rfl, Touch.of_below hb (Nat.le_refl _) _, .inl rfl, ?_⟩
      unfold mkArrs
      rw [hf]
      exact h.below hb
    · refine (make_ok h k (by omega) (by omega) hl).mono ?_
      rintro e W' ⟨A', cap', rfl, ht, ha, hh⟩
      have hf : fitsB room arrs (k : Int) = true := decide_eq_true (by omega)
      refine ⟨A', cap', by simp only [mkRef, mkErr, hf, if_neg h1]; rfl, ht, ha, ?_⟩
      unfold mkArrs
      rw [hf]
      exact hh

theorem HeapAt.rowBase {W : World} {gh gw base room : Nat} {arrs : List (List Int)} {A : Option Addr} {cap : Nat} (h : HeapAt W gh gw base room arrs A cap) : ∀ a : Addr, A = some a → base ≤ a.block ∧ a.block < W.heap.size := by
  intro a e
  subst e
  exact h.row.lt a.block rfl
theorem HeapAt.foot {W : World} {gh gw base room : Nat} {arrs : List (List Int)} {A : Option Addr} {cap : Nat} (h : HeapAt W gh gw base room arrs A cap) : ∀ k, FH gh gw A k → k < W.heap.size := by
  rintro k (rfl | rfl | ⟨a, e, rfl⟩)
  · exact h.hb.l
  · exact h.hw.l
  · exact (h.rowBase a e).2

/-- A heap that was made behind the world w. -/
structure HO (w W : World) (gh gw room : Nat) (arrs : List (List Int)) : Prop where
  ex : ∃ base A cap, HeapAt W gh gw base room arrs A cap
  bw : Below w.heap.size w W
  g1 : w.heap.size ≤ gh
  g2 : w.heap.size ≤ gw

theorem ho_new (n : Nat) (w : World) (h2 : n ≤ 1024) : Calls Try.prog 20 #[.int .i64 n] w fun e W => ∃ gh gw, e = .returned (.tuple #[.pointer (some ⟨gh, 0, none⟩), .int .i64 0]) ∧ HO w W gh gw n [] := by
  refine (new_yes n w h2).mono ?_
  rintro e W ⟨gh, gw, rfl, hb, h3, h4, -, h5⟩
  exact ⟨gh, gw, rfl, ⟨_, _, _, h5⟩, hb, h4, h3⟩
section
variable {w W : World} {gh gw room : Nat} {arrs : List (List Int)}
theorem HO.below (h : HO w W gh gw room arrs) {W' : World} (hb : Below W.heap.size W W') : HO w W' gh gw room arrs := by
  obtain ⟨⟨base, A, cap, h0⟩, h1, h2, h3⟩ := h
  exact ⟨⟨base, A, cap, h0.below hb⟩, below_next h1 hb, h2, h3⟩
theorem ho_make (h : HO w W gh gw room arrs) (n : Int) (hl : arrs.length < 30000) :
    Calls Try.prog 67 #[.pointer (some ⟨gh, 0, none⟩), .int .i64 n] W fun e W' => e = .returned (.tuple #[.int .i64 (mkRef room arrs n), .int .i64 (mkErr room arrs n)]) ∧ HO w W' gh gw room (mkArrs room arrs n) := by
  obtain ⟨⟨base, A, cap, h0⟩, h1, h2, h3⟩ := h
  refine (make_at h0 n hl).mono ?_
  rintro e W' ⟨A', cap', rfl, ht, -, hh⟩
  refine ⟨rfl, ⟨_, _, _, hh⟩, h1.trans (ht.below h1.size ?_), h2, h3⟩
  rintro k (rfl | ⟨a, e, rfl⟩)
  · exact h2
  · have := h0.rowBase a e; have := h0.b1; omega
theorem ho_put_yes (h : HO w W gh gw room arrs) {k j : Nat} (v : Int) (hk : k < arrs.length) (hj : j < arrs[k].length) :
    Calls Try.prog 46 #[.pointer (some ⟨gh, 0, none⟩), .int .i64 ((k : Int) + 1), .int .i64 j, .int .i64 v] W fun e W' => e = .returned (.bool true) ∧ HO w W' gh gw room (arrs.set k (arrs[k].set j v)) := by
  obtain ⟨⟨base, A, cap, h0⟩, h1, h2, h3⟩ := h
  refine (put_yes h0 v hk hj).mono ?_
  rintro e W' ⟨rfl, ht, hh⟩
  refine ⟨rfl, ⟨_, _, _, hh⟩, h1.trans (ht.below h1.size ?_), h2, h3⟩
  rintro k rfl
  exact h3
theorem ho_at_yes (h : HO w W gh gw room arrs) {k j : Nat} (hk : k < arrs.length) (hj : j < arrs[k].length) :
    Calls Try.prog 44 #[.pointer (some ⟨gh, 0, none⟩), .int .i64 ((k : Int) + 1), .int .i64 j] W fun e W' => e = .returned (.tuple #[.int .i64 arrs[k][j], .bool true]) ∧ HO w W' gh gw room arrs := by
  obtain ⟨base, A, cap, h0⟩ := h.ex
  refine (at_yes h0 hk hj).mono ?_
  rintro e W' ⟨rfl, hb⟩
  exact ⟨rfl, h.below hb⟩
theorem ho_at_no (h : HO w W gh gw room arrs) {ref i : Int} (hp : plA arrs ref i = none) :
    Calls Try.prog 44 #[.pointer (some ⟨gh, 0, none⟩), .int .i64 ref, .int .i64 i] W fun e W' => e = .returned (.tuple #[.int .i64 0, .bool false]) ∧ HO w W' gh gw room arrs := by
  obtain ⟨base, A, cap, h0⟩ := h.ex
  refine (at_no h0 hp).mono ?_
  rintro e W' ⟨rfl, hb⟩
  exact ⟨rfl, h.below hb⟩
theorem ho_len (h : HO w W gh gw room arrs) (ref : Int) :
    Calls Try.prog 47 #[.pointer (some ⟨gh, 0, none⟩), .int .i64 ref] W fun e W' =>
      e = .returned (.tuple #[.int .i64 (if 1 ≤ ref ∧ ref ≤ arrs.length then ((arrs[(ref - 1).toNat]?.getD []).length : Int) else 0), .bool (decide (0 ≤ ref ∧ ref ≤ arrs.length))]) ∧ HO w W' gh gw room arrs := by
  obtain ⟨base, A, cap, h0⟩ := h.ex
  refine (len_at h0 ref).mono ?_
  rintro e W' ⟨rfl, hb⟩
  exact ⟨rfl, h.below hb⟩
theorem ho_used (h : HO w W gh gw room arrs) :
    Calls Try.prog 15 #[.pointer (some ⟨gh, 0, none⟩)] W fun e W' => e = .returned (.int .i64 arrs.flatten.length) ∧ HO w W' gh gw room arrs := by
  obtain ⟨base, A, cap, h0⟩ := h.ex
  refine (used_at h0).mono ?_
  rintro e W' ⟨rfl, hb⟩
  exact ⟨rfl, h.below hb⟩
end

end Go.Proofs.Ytkhgpeejmbfmjaa.Hp
