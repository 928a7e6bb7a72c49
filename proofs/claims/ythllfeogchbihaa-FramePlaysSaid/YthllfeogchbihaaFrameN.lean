/- FrameNil: a frame that nobody made has nothing: contracts, and the law's walk. -/
import Derived.Test.YthllfeogchbihaaFrameF
import Derived.Test.YthllfeogchbihaaOpen
namespace Go.Proofs.Ythllfeogchbihaa
open Go.RowKit
set_option linter.unusedSimpArgs false
set_option linter.unusedVariables false

theorem Unmade.below {V W : World} {p : Option Addr} (h : Unmade V p) (hb : Below V.heap.size V W) : Unmade W p := by
  rcases h with rfl | ⟨g, rfl, hl, hc⟩
  · exact .inl rfl
  · exact .inr ⟨g, rfl, Nat.lt_of_lt_of_le hl hb.size, (hb.cell (p := ⟨g, 51, none⟩) hl).trans hc⟩
theorem Unmade.alloc {V : World} {p : Option Addr} (h : Unmade V p) (o : Obj) : Unmade (V.alloc o) p := h.below ((Below.refl _ _).alloc (Nat.le_refl _) o)
section
variable {w : World} {p : Option Addr}
theorem un_size (h : Unmade w p) : Calls Try.prog 15 #[.pointer p] w fun e w' => e = .returned (.int .i64 0) ∧ w' = w := by
  have HN := Lib.hid (none_un p w h)
  clear h
  go_enter Try.func15, Try.ntmps15
  go_wp2_with fail
  refine HN.out.mono ?_
  rintro e w1 ⟨rfl, rfl⟩
  go_wp2_with fail
  go_ret
  exact ⟨rfl, rfl⟩
theorem un_place (h : Unmade w p) : Calls Try.prog 16 #[.pointer p] w fun e w' => e = .returned (.int .i64 0) ∧ w' = w := by
  have HN := Lib.hid (none_un p w h)
  clear h
  go_enter Try.func16, Try.ntmps16
  go_wp2_with fail
  refine HN.out.mono ?_
  rintro e w1 ⟨rfl, rfl⟩
  go_wp2_with fail
  go_ret
  exact ⟨rfl, rfl⟩
theorem un_go (h : Unmade w p) (x : Int) : Calls Try.prog 21 #[.pointer p, .int .i64 x] w fun e w' => e = .returned (.tuple #[]) ∧ w' = w := by
  have HN := Lib.hid (none_un p w h)
  clear h
  go_enter Try.func21, Try.ntmps21
  go_wp2_with fail
  refine HN.out.mono ?_
  rintro e w1 ⟨rfl, rfl⟩
  go_wp2_with fail
  go_end0
  exact ⟨rfl, rfl⟩
theorem un_begin (h : Unmade w p) (x y : Int) : Calls Try.prog 9 #[.pointer p, .int .i64 x, .int .i64 y] w fun e w' => e = .returned (.tuple #[]) ∧ w' = w := by
  have HN := Lib.hid (none_un p w h)
  clear h
  go_enter Try.func9, Try.ntmps9
  go_wp2_with fail
  refine HN.out.mono ?_
  rintro e w1 ⟨rfl, rfl⟩
  go_wp2_with fail
  refine bodyPost_ret (results_none rfl _ _ _) rfl ?_
  exact ⟨rfl, rfl⟩
theorem un_again (h : Unmade w p) (x : Int) : Calls Try.prog 10 #[.pointer p, .int .i64 x] w fun e w' => e = .returned (.tuple #[.bool false, .bool false]) ∧ w' = w := by
  have HN := Lib.hid (none_un p w h)
  clear h
  go_enter Try.func10, Try.ntmps10
  go_wp2_with fail
  refine HN.out.mono ?_
  rintro e w1 ⟨rfl, rfl⟩
  go_wp2_with fail
  go_ret2
  exact ⟨rfl, rfl⟩
theorem un_get (h : Unmade w p) (x : Int) : Calls Try.prog 14 #[.pointer p, .int .i64 x] w fun e w' => e = .returned (.tuple #[vagg zv, .bool false]) ∧ Below w.heap.size w w' := by
  have HN := Lib.hid (fun o => none_un p (w.alloc o) (h.alloc o))
  clear h
  unfold vagg zv
  dsimp only
  go_enter Try.func14, Try.ntmps14
  go_wp2_with fail
  refine (HN.out _).mono ?_
  rintro e w1 ⟨rfl, rfl⟩
  go_wp2_with fail
  exact bodyPost_ret (v := .tuple #[.agg #[.int .u8 0, .int .i64 0, .int .i64 0], .bool false]) (by simp [results, Try.results14, go_sem]) rfl ⟨rfl, (Below.refl _ _).alloc (Nat.le_refl _) _⟩
theorem un_top (h : Unmade w p) : Calls Try.prog 13 #[.pointer p] w fun e w' => e = .returned (.tuple #[vagg zv, .bool false]) ∧ Below w.heap.size w w' := by
  have HN := Lib.hid (fun o => none_un p (w.alloc o) (h.alloc o))
  clear h
  unfold vagg zv
  dsimp only
  go_enter Try.func13, Try.ntmps13
  go_wp2_with fail
  refine (HN.out _).mono ?_
  rintro e w1 ⟨rfl, rfl⟩
  go_wp2_with fail
  exact bodyPost_ret (v := .tuple #[.agg #[.int .u8 0, .int .i64 0, .int .i64 0], .bool false]) (by simp [results, Try.results13, go_sem]) rfl ⟨rfl, (Below.refl _ _).alloc (Nat.le_refl _) _⟩
theorem un_pop (h : Unmade w p) (k : Int) (hk : 0 ≤ k ∧ k ≤ 255) : Calls Try.prog 12 #[.pointer p, .int .u8 k] w fun e w' => e = .returned (.tuple #[vagg zv, .bool false]) ∧ Below w.heap.size w w' := by
  have hb0 : Below w.heap.size w (w.alloc (.cells #[.int .u8 0, .int .i64 0, .int .i64 0] 37)) := (Below.refl _ _).alloc (Nat.le_refl _) _
  have HT := Lib.hid (un_top (h.alloc (.cells #[.int .u8 0, .int .i64 0, .int .i64 0] 37)))
  have hB : Hid (∀ w2, Below (w.alloc (.cells #[.int .u8 0, .int .i64 0, .int .i64 0] 37)).heap.size (w.alloc (.cells #[.int .u8 0, .int .i64 0, .int .i64 0] 37)) w2 → Below w.heap.size w w2 ∧ Blk w2 w.heap.size (vc zv)) :=
    Lib.hid (fun w2 hb => ⟨below_next hb0 hb, (boxed w zv).below hb⟩)
  obtain ⟨bx, hbxe⟩ : ∃ bx, w.heap.size = bx := ⟨_, rfl⟩
  clear h hb0
  unfold vagg zv at HT ⊢
  dsimp only at HT ⊢
  go_enter Try.func12, Try.ntmps12
  go_wp2_with fail
  refine HT.out.mono ?_
  rintro e w2 ⟨rfl, hb⟩
  obtain ⟨t2, b2⟩ := hB.out w2 hb
  rw [hbxe] at b2
  have hl2 : bx < w2.heap.size := b2.l
  have d0 : w2.cell? ⟨bx, 0, none⟩ = some (.int .u8 0) := b2.c 0 _ rfl
  have d1 : w2.cell? ⟨bx, 1, none⟩ = some (.int .i64 0) := b2.c 1 _ rfl
  have d2 : w2.cell? ⟨bx, 2, none⟩ = some (.int .i64 0) := b2.c 2 _ rfl
  have f0 := b2.f 0
  have f1 := b2.f 1
  have f2 := b2.f 2
  have hwb : w.heap.size ≤ bx := by omega
  clear hb b2 HT hB
  have T2 := Lib.hid t2
  clear t2
  go_wp2_with fail
  refine bodyPost_ret (v := .tuple #[.agg #[.int .u8 0, .int .i64 0, .int .i64 0], .bool false]) (by simp [results, Try.results12, go_sem, *]) rfl ⟨rfl, ?_⟩
  exact (((T2.out.setCell (show w.heap.size ≤ bx from hwb) _).setCell (show w.heap.size ≤ bx from hwb) _).setCell (show w.heap.size ≤ bx from hwb) _).alloc (by simpa using T2.out.size) _
theorem un_set (h : Unmade w p) (i : Int) (v : V) : Calls Try.prog 22 #[.pointer p, .int .i64 i, vagg v] w fun e w' => e = .returned (.bool false) ∧ Below w.heap.size w w' := by
  have hb0 : Below w.heap.size w (w.alloc (.cells #[.int .u8 v.1, .int .i64 v.2.1, .int .i64 v.2.2] 37)) := (Below.refl _ _).alloc (Nat.le_refl _) _
  have HG := Lib.hid (un_get (h.alloc (.cells #[.int .u8 v.1, .int .i64 v.2.1, .int .i64 v.2.2] 37)) i)
  have hB : Hid (∀ w2, Below (w.alloc (.cells #[.int .u8 v.1, .int .i64 v.2.1, .int .i64 v.2.2] 37)).heap.size (w.alloc (.cells #[.int .u8 v.1, .int .i64 v.2.1, .int .i64 v.2.2] 37)) w2 → Below w.heap.size w w2) := Lib.hid (fun w2 hb => below_next hb0 hb)
  obtain ⟨y0, y1, y2⟩ := v
  dsimp only at *
  unfold vagg zv at HG
  unfold vagg
  dsimp only at HG ⊢
  clear hb0 h
  go_enter Try.func22, Try.ntmps22
  go_wp2_with fail
  refine HG.out.mono ?_
  rintro e w2 ⟨rfl, hb⟩
  have T2 := Lib.hid (hB.out w2 hb)
  clear hb HG hB
  go_wp2_with fail
  go_ret
  exact ⟨rfl, T2.out.alloc T2.out.size _⟩
theorem un_push (h : Unmade w p) (v : V) : Calls Try.prog 11 #[.pointer p, vagg v] w fun e w' => e = .returned (.bool false) ∧ Below w.heap.size w w' := by
  have HN := Lib.hid (fun o => none_un p (w.alloc o) (h.alloc o))
  have hb0 : Below w.heap.size w (w.alloc (.cells #[.int .u8 v.1, .int .i64 v.2.1, .int .i64 v.2.2] 37)) := (Below.refl _ _).alloc (Nat.le_refl _) _
  obtain ⟨y0, y1, y2⟩ := v
  unfold vagg
  dsimp only at *
  have HB0 := Lib.hid hb0
  clear hb0 h
  go_enter Try.func11, Try.ntmps11
  go_wp2_with fail
  refine (HN.out _).mono ?_
  rintro e w1 ⟨rfl, rfl⟩
  go_wp2_with fail
  go_ret
  exact ⟨rfl, HB0.out⟩
end

/-- The two frames that nobody made, in a slice. -/
def TwoAt (w wr : World) (bs ba bz : Nat) (cs : List Value) : Prop :=
  Below w.heap.size w wr ∧ Blk wr bs [.pointer none, .pointer (some ⟨bz, 0, none⟩)] ∧ Blk wr ba cs ∧ bz < wr.heap.size ∧ wr.cell? ⟨bz, 51, none⟩ = some (.map none)
theorem TwoAt.below {w wr W : World} {bs ba bz : Nat} {cs : List Value} (h : TwoAt w wr bs ba bz cs) (hb : Below wr.heap.size wr W) : TwoAt w W bs ba bz cs := by
  obtain ⟨h1, h2, h3, h4, h5⟩ := h
  exact ⟨below_next h1 hb, h2.below hb, h3.below hb, Nat.lt_of_lt_of_le h4 hb.size, (hb.cell (p := ⟨bz, 51, none⟩) h4).trans h5⟩

set_option maxRecDepth 100000 in
set_option maxHeartbeats 4000000 in
theorem nil_walk (k i n x0 x1 x2 : Int) (w : World) (hk : 0 ≤ k ∧ k ≤ 255) (hx : 0 ≤ x0 ∧ x0 ≤ 255) :
    Calls Try.prog 6 #[.agg #[.int .u8 k, .int .i64 i, .int .i64 n, .int .u8 x0, .int .i64 x1, .int .i64 x2]] w fun e w' => e = .returned (.bool true) ∧ Below w.heap.size w w' := by
  obtain ⟨k0, k1⟩ := hk
  obtain ⟨y0, y1⟩ := hx
  go_enter Try.func6, Try.ntmps6
  go_wp2_with fail
  have hT : ∃ X bs ba bz, ((w.alloc (.cells #[.int .u8 k, .int .i64 i, .int .i64 n, .int .u8 x0, .int .i64 x1, .int .i64 x2] 51)).alloc (.cells #[Value.int .u8 0, .int .i64 0, .int .i64 0, .int .u8 0, .int .i64 0, .int .i64 0, .int .u8 0, .int .i64 0, .int .i64 0, .int .u8 0, .int .i64 0, .int .i64 0, .int .u8 0, .int .i64 0, .int .i64 0, .int .u8 0, .int .i64 0, .int .i64 0, .int .u8 0, .int .i64 0, .int .i64 0, .int .u8 0, .int .i64 0, .int .i64 0, .int .u8 0, .int .i64 0, .int .i64 0, .int .u8 0, .int .i64 0, .int .i64 0, .int .u8 0, .int .i64 0, .int .i64 0, .int .u8 0, .int .i64 0, .int .i64 0, .int .u8 0, .int .i64 0, .int .i64 0, .int .u8 0, .int .i64 0, .int .i64 0, .int .u8 0, .int .i64 0, .int .i64 0, .int .u8 0, .int .i64 0, .int .i64 0, .int .i64 0, .slice none 0 0, .int .i64 0, .map none] 59)).alloc (.cells #[.pointer none, .pointer (some ⟨w.heap.size + 1, 0, none⟩)] 25) = X ∧
      w.heap.size = ba ∧ w.heap.size + 1 = bz ∧ w.heap.size + 1 + 1 = bs ∧ TwoAt w X bs ba bz [.int .u8 k, .int .i64 i, .int .i64 n, .int .u8 x0, .int .i64 x1, .int .i64 x2] := by
    refine ⟨_, _, _, _, rfl, rfl, rfl, rfl, ?_, ?_, ?_, by simp, ?_⟩
    · exact (((Below.refl _ _).alloc (Nat.le_refl _) _).alloc (by simp) _).alloc (by simp <;> omega) _
    · have := Blk.new ((w.alloc (.cells #[.int .u8 k, .int .i64 i, .int .i64 n, .int .u8 x0, .int .i64 x1, .int .i64 x2] 51)).alloc (.cells #[Value.int .u8 0, .int .i64 0, .int .i64 0, .int .u8 0, .int .i64 0, .int .i64 0, .int .u8 0, .int .i64 0, .int .i64 0, .int .u8 0, .int .i64 0, .int .i64 0, .int .u8 0, .int .i64 0, .int .i64 0, .int .u8 0, .int .i64 0, .int .i64 0, .int .u8 0, .int .i64 0, .int .i64 0, .int .u8 0, .int .i64 0, .int .i64 0, .int .u8 0, .int .i64 0, .int .i64 0, .int .u8 0, .int .i64 0, .int .i64 0, .int .u8 0, .int .i64 0, .int .i64 0, .int .u8 0, .int .i64 0, .int .i64 0, .int .u8 0, .int .i64 0, .int .i64 0, .int .u8 0, .int .i64 0, .int .i64 0, .int .u8 0, .int .i64 0, .int .i64 0, .int .u8 0, .int .i64 0, .int .i64 0, .int .i64 0, .slice none 0 0, .int .i64 0, .map none] 59)) #[.pointer none, .pointer (some ⟨w.heap.size + 1, 0, none⟩)] 25
      simpa using this
    · exact ((Blk.new w #[.int .u8 k, .int .i64 i, .int .i64 n, .int .u8 x0, .int .i64 x1, .int .i64 x2] 51).alloc _).alloc _
    · have h1 := Blk.new (w.alloc (.cells #[.int .u8 k, .int .i64 i, .int .i64 n, .int .u8 x0, .int .i64 x1, .int .i64 x2] 51)) #[Value.int .u8 0, .int .i64 0, .int .i64 0, .int .u8 0, .int .i64 0, .int .i64 0, .int .u8 0, .int .i64 0, .int .i64 0, .int .u8 0, .int .i64 0, .int .i64 0, .int .u8 0, .int .i64 0, .int .i64 0, .int .u8 0, .int .i64 0, .int .i64 0, .int .u8 0, .int .i64 0, .int .i64 0, .int .u8 0, .int .i64 0, .int .i64 0, .int .u8 0, .int .i64 0, .int .i64 0, .int .u8 0, .int .i64 0, .int .i64 0, .int .u8 0, .int .i64 0, .int .i64 0, .int .u8 0, .int .i64 0, .int .i64 0, .int .u8 0, .int .i64 0, .int .i64 0, .int .u8 0, .int .i64 0, .int .i64 0, .int .u8 0, .int .i64 0, .int .i64 0, .int .u8 0, .int .i64 0, .int .i64 0, .int .i64 0, .slice none 0 0, .int .i64 0, .map none] 59
      have h2 := (h1.alloc (.cells #[.pointer none, .pointer (some ⟨w.heap.size + 1, 0, none⟩)] 25)).c 51 (.map none) rfl
      simpa using h2
  obtain ⟨X, bs, ba, bz, hX, hba, hbz, hbs, hT⟩ := hT
  have HT := Lib.hid hT
  rw [hX, hbs, hbz, hba]
  clear hT hX hba hbz hbs
  go_loopw [5] (fun t wr => ∃ j : Nat, j ≤ 2 ∧ t = .int .i64 j ∧ TwoAt w wr bs ba bz [.int .u8 k, .int .i64 i, .int .i64 n, .int .u8 x0, .int .i64 x1, .int .i64 x2]) (fun t _ => 2 - (intOf t).toNat)
  case atStart => exact ⟨0, by omega, rfl, HT.out⟩
  case round =>
    clear HT
    obtain ⟨j, hj, rfl, ht⟩ := hrel
    by_cases hlt : j < 2
    · obtain ⟨p, hcp, hup⟩ : ∃ p, wr.cell? ⟨bs, j, none⟩ = some (.pointer p) ∧ ((p = none) ∨ p = some ⟨bz, 0, none⟩) := by
        rcases (show j = 0 ∨ j = 1 by omega) with rfl | rfl
        · exact ⟨none, ht.2.1.c 0 _ rfl, .inl rfl⟩
        · exact ⟨some ⟨bz, 0, none⟩, ht.2.1.c 1 _ rfl, .inr rfl⟩
      have HUN : Hid (∀ W, TwoAt w W bs ba bz [.int .u8 k, .int .i64 i, .int .i64 n, .int .u8 x0, .int .i64 x1, .int .i64 x2] → Unmade W p) := Lib.hid (fun W h => by
        rcases hup with rfl | rfl
        · exact .inl rfl
        · exact .inr ⟨bz, rfl, h.2.2.2.1, h.2.2.2.2⟩)
      have j1 : (j : Int) < 2 := by omega
      have hbsl := ht.2.1.l
      clear hup
      have a0 : wr.cell? ⟨ba, 0, none⟩ = some (.int .u8 k) := ht.2.2.1.c 0 _ rfl
      have a1 : wr.cell? ⟨ba, 1, none⟩ = some (.int .i64 i) := ht.2.2.1.c 1 _ rfl
      have a2 : wr.cell? ⟨ba, 2, none⟩ = some (.int .i64 n) := ht.2.2.1.c 2 _ rfl
      have a3 : wr.cell? ⟨ba, 3, none⟩ = some (.int .u8 x0) := ht.2.2.1.c 3 _ rfl
      have a4 : wr.cell? ⟨ba, 4, none⟩ = some (.int .i64 x1) := ht.2.2.1.c 4 _ rfl
      have a5 : wr.cell? ⟨ba, 5, none⟩ = some (.int .i64 x2) := ht.2.2.1.c 5 _ rfl
      have hal : ba < wr.heap.size := ht.2.2.1.l
      have HT := Lib.hid ht
      clear ht
      go_wp2_with fail
      refine (un_go (HUN.out _ HT.out) n).mono ?_
      rintro e w1 ⟨rfl, rfl⟩
      go_wp2_with fail
      refine (un_begin (HUN.out _ HT.out) i n).mono ?_
      rintro e w1 ⟨rfl, rfl⟩
      go_wp2_with fail
      refine (un_get (HUN.out _ HT.out) i).mono ?_
      rintro e w2 ⟨rfl, hb⟩
      have ht := HT.out.below hb
      have a0 : w2.cell? ⟨ba, 0, none⟩ = some (.int .u8 k) := ht.2.2.1.c 0 _ rfl
      have a1 : w2.cell? ⟨ba, 1, none⟩ = some (.int .i64 i) := ht.2.2.1.c 1 _ rfl
      have a2 : w2.cell? ⟨ba, 2, none⟩ = some (.int .i64 n) := ht.2.2.1.c 2 _ rfl
      have a3 : w2.cell? ⟨ba, 3, none⟩ = some (.int .u8 x0) := ht.2.2.1.c 3 _ rfl
      have a4 : w2.cell? ⟨ba, 4, none⟩ = some (.int .i64 x1) := ht.2.2.1.c 4 _ rfl
      have a5 : w2.cell? ⟨ba, 5, none⟩ = some (.int .i64 x2) := ht.2.2.1.c 5 _ rfl
      have hal : ba < w2.heap.size := ht.2.2.1.l
      have HT := Lib.hid (ht.below ((Below.refl _ _).alloc (Nat.le_refl _) (.cells #[.int .u8 0, .int .i64 0, .int .i64 0] 37)))
      clear ht hb hcp
      unfold vagg zv
      dsimp only
      go_wp2_with fail
      refine (un_top (HUN.out _ HT.out)).mono ?_
      rintro e w3 ⟨rfl, hb⟩
      have ht := HT.out.below hb
      have a0 : w3.cell? ⟨ba, 0, none⟩ = some (.int .u8 k) := ht.2.2.1.c 0 _ rfl
      have a1 : w3.cell? ⟨ba, 1, none⟩ = some (.int .i64 i) := ht.2.2.1.c 1 _ rfl
      have a2 : w3.cell? ⟨ba, 2, none⟩ = some (.int .i64 n) := ht.2.2.1.c 2 _ rfl
      have a3 : w3.cell? ⟨ba, 3, none⟩ = some (.int .u8 x0) := ht.2.2.1.c 3 _ rfl
      have a4 : w3.cell? ⟨ba, 4, none⟩ = some (.int .i64 x1) := ht.2.2.1.c 4 _ rfl
      have a5 : w3.cell? ⟨ba, 5, none⟩ = some (.int .i64 x2) := ht.2.2.1.c 5 _ rfl
      have hal : ba < w3.heap.size := ht.2.2.1.l
      have HT := Lib.hid (ht.below ((Below.refl _ _).alloc (Nat.le_refl _) (.cells #[.int .u8 0, .int .i64 0, .int .i64 0] 37)))
      clear ht hb
      unfold vagg zv
      dsimp only
      go_wp2_with fail
      refine (un_pop (HUN.out _ HT.out) x0 ⟨y0, y1⟩).mono ?_
      rintro e w4 ⟨rfl, hb⟩
      have ht := HT.out.below hb
      have a0 : w4.cell? ⟨ba, 0, none⟩ = some (.int .u8 k) := ht.2.2.1.c 0 _ rfl
      have a1 : w4.cell? ⟨ba, 1, none⟩ = some (.int .i64 i) := ht.2.2.1.c 1 _ rfl
      have a2 : w4.cell? ⟨ba, 2, none⟩ = some (.int .i64 n) := ht.2.2.1.c 2 _ rfl
      have a3 : w4.cell? ⟨ba, 3, none⟩ = some (.int .u8 x0) := ht.2.2.1.c 3 _ rfl
      have a4 : w4.cell? ⟨ba, 4, none⟩ = some (.int .i64 x1) := ht.2.2.1.c 4 _ rfl
      have a5 : w4.cell? ⟨ba, 5, none⟩ = some (.int .i64 x2) := ht.2.2.1.c 5 _ rfl
      have hal : ba < w4.heap.size := ht.2.2.1.l
      have HT := Lib.hid (ht.below ((Below.refl _ _).alloc (Nat.le_refl _) (.cells #[.int .u8 0, .int .i64 0, .int .i64 0] 37)))
      clear ht hb
      unfold vagg zv
      dsimp only
      go_wp2_with fail
      refine (un_again (HUN.out _ HT.out) i).mono ?_
      rintro e w5 ⟨rfl, rfl⟩
      go_wp2_with fail
      have hs := un_set (HUN.out _ HT.out) i (x0, x1, x2)
      unfold vagg at hs
      dsimp only at hs
      refine hs.mono ?_
      rintro e w6 ⟨rfl, hb⟩
      have ht := HT.out.below hb
      have a0 : w6.cell? ⟨ba, 0, none⟩ = some (.int .u8 k) := ht.2.2.1.c 0 _ rfl
      have a1 : w6.cell? ⟨ba, 1, none⟩ = some (.int .i64 i) := ht.2.2.1.c 1 _ rfl
      have a2 : w6.cell? ⟨ba, 2, none⟩ = some (.int .i64 n) := ht.2.2.1.c 2 _ rfl
      have a3 : w6.cell? ⟨ba, 3, none⟩ = some (.int .u8 x0) := ht.2.2.1.c 3 _ rfl
      have a4 : w6.cell? ⟨ba, 4, none⟩ = some (.int .i64 x1) := ht.2.2.1.c 4 _ rfl
      have a5 : w6.cell? ⟨ba, 5, none⟩ = some (.int .i64 x2) := ht.2.2.1.c 5 _ rfl
      have hal : ba < w6.heap.size := ht.2.2.1.l
      have HT := Lib.hid ht
      clear ht hb hs
      go_wp2_with fail
      have hs := un_push (HUN.out _ HT.out) (x0, x1, x2)
      unfold vagg at hs
      dsimp only at hs
      refine hs.mono ?_
      rintro e w7 ⟨rfl, hb⟩
      have HT := Lib.hid (HT.out.below hb)
      clear hb hs
      go_wp2_with fail
      refine (un_size (HUN.out _ HT.out)).mono ?_
      rintro e w8 ⟨rfl, rfl⟩
      go_wp2_with fail
      refine (un_place (HUN.out _ HT.out)).mono ?_
      rintro e w8 ⟨rfl, rfl⟩
      go_wp2_with fail
      go_roundw
      case rel => exact ⟨j + 1, by omega, by go_num, HT.out⟩
      case measure => simp [intOf]; omega
    · obtain rfl : j = 2 := by omega
      have HB := Lib.hid ht.1
      clear ht
      go_wp2_with fail
      refine (awake_ok _).mono ?_
      rintro e w1 ⟨rfl, hb⟩
      go_wp2_with fail
      go_ret
      exact ⟨rfl, below_next HB.out hb⟩

theorem cells5 : Try.prog.cellsOf 5 = 1 := by kernel_rfl
theorem cells3 : Try.prog.cellsOf 3 = 1 := by kernel_rfl
theorem cells2 : Try.prog.cellsOf 2 = 1 := by kernel_rfl
theorem cells37 : Try.prog.cellsOf 37 = 3 := by kernel_rfl
/-- A value's cells. -/
theorem val_in {W : World} {cs : List Value} {n : Nat} (hl : cs.length = 3) (h : deepOk Try.prog W (n + 2) 37 cs) : ∃ v : V, cs = vc v ∧ VOk v := by
  match cs, hl with
  | [x, y, z], _ =>
    have d0 := deepOk_at Try.underlying37 h 0 5 0 _ _ rfl rfl rfl cells5
    have d1 := deepOk_at Try.underlying37 h 1 2 1 _ _ rfl rfl rfl cells2
    have d2 := deepOk_at Try.underlying37 h 2 2 2 _ _ rfl rfl rfl cells2
    obtain ⟨a, e0, w0⟩ := deepOk_int Try.underlying5 d0
    obtain ⟨b, e1, w1⟩ := deepOk_int Try.underlying2 d1
    obtain ⟨c, e2, w2⟩ := deepOk_int Try.underlying2 d2
    injection e0 with e0
    injection e1 with e1
    injection e2 with e2
    subst e0 e1 e2
    exact ⟨(a, b, c), rfl, wf_u8 w0, wf_i64' w1, wf_i64' w2⟩
/-- An act's cells. -/
theorem act_in {W : World} {cs : List Value} {n : Nat} (hl : cs.length = 6) (h : deepOk Try.prog W (n + 3) 51 cs) :
    ∃ (k i m : Int) (v : V), cs = .int .u8 k :: .int .i64 i :: .int .i64 m :: vc v ∧ (0 ≤ k ∧ k ≤ 255) ∧ I64 i ∧ I64 m ∧ VOk v := by
  match cs, hl with
  | [x, y, z, a, b, c], _ =>
    have d0 := deepOk_at Try.underlying51 h 0 5 0 _ _ rfl rfl rfl cells5
    have d1 := deepOk_at Try.underlying51 h 1 3 1 _ _ rfl rfl rfl cells3
    have d2 := deepOk_at Try.underlying51 h 2 3 2 _ _ rfl rfl rfl cells3
    have d3 := deepOk_at Try.underlying51 h 3 37 3 _ _ rfl rfl rfl cells37
    obtain ⟨k, e0, w0⟩ := deepOk_int Try.underlying5 d0
    obtain ⟨i, e1, w1⟩ := deepOk_int Try.underlying3 d1
    obtain ⟨m, e2, w2⟩ := deepOk_int Try.underlying3 d2
    obtain ⟨v, e3, w3⟩ := val_in rfl d3
    injection e0 with e0
    injection e1 with e1
    injection e2 with e2
    subst e0 e1 e2
    refine ⟨k, i, m, v, ?_, wf_u8 w0, wf_i64' w1, wf_i64' w2, w3⟩
    rw [← e3]
    rfl
theorem nil_all (c : Array Value) (w : World) (s : c.size = Try.prog.cellsOf 51) (d : deepOk Try.prog w 8 51 c.toList) :
    Calls Try.prog 6 #[.agg c] w fun e W' => e = .returned (.bool true) ∧ Below w.heap.size w W' := by
  rw [show Try.prog.cellsOf 51 = 6 by kernel_rfl] at s
  obtain ⟨l⟩ := c
  obtain ⟨k, i, m, v, e, hk, hi, hm, hv⟩ := act_in (n := 5) (by simpa using s) d
  simp only at e
  subst e
  exact nil_walk k i m v.1 v.2.1 v.2.2 w hk hv.1
#print axioms nil_all

end Go.Proofs.Ythllfeogchbihaa
