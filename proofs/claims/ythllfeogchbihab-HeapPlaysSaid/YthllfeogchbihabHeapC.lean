/- Heaps (package heap): a heap that nobody made has nothing, and takes nothing: contracts, and the law's walk. -/
import Derived.Test.YthllfeogchbihabHeapB
import Derived.Handy
import Derived.Deep.QuietTactic
import Derived.BigQuiet
namespace Go.Proofs.Ythllfeogchbihab
open Go.RowKit Go.Shelf
set_option linter.unusedSimpArgs false
set_option linter.unusedVariables false

theorem Unmade.next {V W : World} {p : Option Addr} (h : Unmade V.heap.size V p) (hb : Below V.heap.size V W) : Unmade W.heap.size W p := by
  rcases h with rfl | ⟨g, rfl, hl, hc⟩
  · exact .inl rfl
  · exact .inr ⟨g, rfl, Nat.lt_of_lt_of_le hl hb.size, (hb.cell (p := ⟨g, 2, none⟩) hl).trans hc⟩

theorem placeNone_any (p : Option Addr) (ref i : Int) (w : World) (hu : Unmade w.heap.size w p) :
    Calls Try.prog 20 #[.pointer p, .int .i64 ref, .int .i64 i] w fun e W' => e = .returned (.pointer none) ∧ Below w.heap.size w W' := by
  have HU := Lib.hid hu
  clear hu
  go_enter Try.func20, Try.ntmps20
  go_wp2_with fail
  refine (arrayNone_any p ref w HU.out).mono ?_
  rintro e w1 ⟨rfl, hb⟩
  go_wp2_with fail
  go_ret
  exact ⟨rfl, hb⟩
theorem atNone_any (p : Option Addr) (ref i : Int) (w : World) (hu : Unmade w.heap.size w p) :
    Calls Try.prog 8 #[.pointer p, .int .i64 ref, .int .i64 i] w fun e W' => e = .returned (.tuple #[.int .i64 0, .bool false]) ∧ Below w.heap.size w W' := by
  have HU := Lib.hid hu
  clear hu
  go_enter Try.func8, Try.ntmps8
  go_wp2_with fail
  refine (placeNone_any p ref i w HU.out).mono ?_
  rintro e w1 ⟨rfl, hb⟩
  go_wp2_with fail
  go_ret2
  exact ⟨rfl, hb⟩
theorem lenNone_any (p : Option Addr) (ref : Int) (w : World) (hu : Unmade w.heap.size w p) :
    Calls Try.prog 9 #[.pointer p, .int .i64 ref] w fun e W' => e = .returned (.tuple #[.int .i64 0, .bool false]) ∧ Below w.heap.size w W' := by
  have HU := Lib.hid hu
  clear hu
  go_enter Try.func9, Try.ntmps9
  go_wp2_with fail
  refine (arrayNone_any p ref w HU.out).mono ?_
  rintro e w1 ⟨rfl, hb⟩
  go_wp2_with fail
  go_ret2
  exact ⟨rfl, hb⟩
theorem putNone_any (p : Option Addr) (ref i v : Int) (w : World) (hu : Unmade w.heap.size w p) :
    Calls Try.prog 10 #[.pointer p, .int .i64 ref, .int .i64 i, .int .i64 v] w fun e W' => e = .returned (.bool false) ∧ Below w.heap.size w W' := by
  have HU := Lib.hid hu
  clear hu
  go_enter Try.func10, Try.ntmps10
  go_wp2_with fail
  refine (placeNone_any p ref i w HU.out).mono ?_
  rintro e w1 ⟨rfl, hb⟩
  go_wp2_with fail
  go_ret
  exact ⟨rfl, hb⟩
theorem makeNone_any (p : Option Addr) (n : Int) (w : World) (hu : Unmade w.heap.size w p) :
    Calls Try.prog 7 #[.pointer p, .int .i64 n] w fun e W' => e = .returned (.tuple #[.int .i64 0, .int .i64 1]) ∧ Below w.heap.size w W' := by
  have HU := Lib.hid hu
  rcases hu with rfl | ⟨gh, rfl, hl, hc⟩
  · go_enter Try.func7, Try.ntmps7
    go_wp2_with fail
    refine (usedNone_any none w HU.out).mono ?_
    rintro e w1 ⟨rfl, hb⟩
    go_wp2_with fail
    go_ret2
    exact ⟨rfl, hb⟩
  · clear hc
    go_enter Try.func7, Try.ntmps7
    go_wp2_with fail
    refine (usedNone_any _ w HU.out).mono ?_
    rintro e w1 ⟨rfl, hb⟩
    have hc : w1.cell? ⟨gh, 2, none⟩ = some (.bool false) := by
      rcases HU.out with e | ⟨g, e, h1, h2⟩
      · cases e
      · injection e with e; injection e with e; subst e
        exact (hb.cell (p := ⟨gh, 2, none⟩) h1).trans h2
    go_wp2_with fail
    go_ret2
    exact ⟨rfl, hb⟩

set_option maxRecDepth 100000 in
set_option maxHeartbeats 4000000 in
theorem heapNil_walk (k ref i v : Int) (w : World) :
    Calls Try.prog 3 #[.agg #[.int .u8 k, .int .i64 ref, .int .i64 i, .int .i64 v]] w fun e W' => e = .returned (.bool true) ∧ Below w.heap.size w W' := by
  go_enter Try.func3, Try.ntmps3
  go_wp2_with fail
  obtain ⟨W, hW⟩ : ∃ W, ((w.alloc (.cells #[.int .u8 k, .int .i64 ref, .int .i64 i, .int .i64 v] 23)).alloc (.cells #[.slice none 0 0, .slice none 0 0, .bool false] 28)).alloc (.cells #[.pointer none, .pointer (some ⟨w.heap.size + 1, 0, none⟩)] 24) = W := ⟨_, rfl⟩
  have hB0 : Below w.heap.size w W := by rw [← hW]; go_grown
  have a0 : Blk W w.heap.size [.int .u8 k, .int .i64 ref, .int .i64 i, .int .i64 v] := by rw [← hW]; exact ((Blk.new w _ _).alloc _).alloc _
  have h0 : Blk W (w.heap.size + 1) [.slice none 0 0, .slice none 0 0, .bool false] := by
    rw [← hW]
    have := (Blk.new (w.alloc (.cells #[.int .u8 k, .int .i64 ref, .int .i64 i, .int .i64 v] 23)) #[.slice none 0 0, .slice none 0 0, .bool false] 28).alloc (.cells #[.pointer none, .pointer (some ⟨w.heap.size + 1, 0, none⟩)] 24)
    simpa using this
  have r0 : Blk W (w.heap.size + 1 + 1) [.pointer none, .pointer (some ⟨w.heap.size + 1, 0, none⟩)] := by
    rw [← hW]
    have := Blk.new ((w.alloc (.cells #[.int .u8 k, .int .i64 ref, .int .i64 i, .int .i64 v] 23)).alloc (.cells #[.slice none 0 0, .slice none 0 0, .bool false] 28)) #[.pointer none, .pointer (some ⟨w.heap.size + 1, 0, none⟩)] 24
    simpa using this
  rw [hW]
  clear hW
  go_loopw [5] (fun t wr => ∃ q : Nat, q ≤ 2 ∧ t = .int .i64 q ∧ Blk wr w.heap.size [.int .u8 k, .int .i64 ref, .int .i64 i, .int .i64 v] ∧ Blk wr (w.heap.size + 1) [.slice none 0 0, .slice none 0 0, .bool false] ∧ Blk wr (w.heap.size + 1 + 1) [.pointer none, .pointer (some ⟨w.heap.size + 1, 0, none⟩)] ∧ Below w.heap.size w wr) (fun t _ => 2 - (intOf t).toNat)
  case atStart => exact ⟨0, by omega, rfl, a0, h0, r0, hB0⟩
  case round =>
    obtain ⟨q, hq, rfl, awr, hwr, rwr, hBwr⟩ := hrel
    by_cases hlt : q < 2
    · obtain ⟨P, hP, uwr⟩ : ∃ P, wr.cell? ⟨w.heap.size + 1 + 1, q, none⟩ = some (.pointer P) ∧ Unmade wr.heap.size wr P := by
        rcases (show q = 0 ∨ q = 1 by omega) with rfl | rfl
        · exact ⟨none, rwr.c 0 _ rfl, .inl rfl⟩
        · exact ⟨_, rwr.c 1 _ rfl, .inr ⟨_, rfl, hwr.l, hwr.c 2 _ rfl⟩⟩
      have d0 : wr.cell? ⟨w.heap.size, 0, none⟩ = some (.int .u8 k) := awr.c 0 _ rfl
      have d1 : wr.cell? ⟨w.heap.size, 1, none⟩ = some (.int .i64 ref) := awr.c 1 _ rfl
      have d2 : wr.cell? ⟨w.heap.size, 2, none⟩ = some (.int .i64 i) := awr.c 2 _ rfl
      have d3 : wr.cell? ⟨w.heap.size, 3, none⟩ = some (.int .i64 v) := awr.c 3 _ rfl
      have q2 : (q : Int) < 2 := by omega
      have q3 : (0 : Int) ≤ (q : Int) := by omega
      clear a0 h0 r0 hB0
      go_wp2_with fail
      refine (makeNone_any P v wr uwr).mono ?_
      rintro e w1 ⟨rfl, hb⟩
      have hBw1 : Below w.heap.size w w1 := below_next hBwr hb
      have aw1 := awr.below hb
      have hw1 := hwr.below hb
      have rw1 := rwr.below hb
      have uw1 : Unmade w1.heap.size w1 P := Unmade.next uwr hb
      clear d0 d1 d2 d3 awr hwr rwr uwr hBwr hb
      have d0 : w1.cell? ⟨w.heap.size, 0, none⟩ = some (.int .u8 k) := aw1.c 0 _ rfl
      have d1 : w1.cell? ⟨w.heap.size, 1, none⟩ = some (.int .i64 ref) := aw1.c 1 _ rfl
      have d2 : w1.cell? ⟨w.heap.size, 2, none⟩ = some (.int .i64 i) := aw1.c 2 _ rfl
      have d3 : w1.cell? ⟨w.heap.size, 3, none⟩ = some (.int .i64 v) := aw1.c 3 _ rfl
      go_wp2_with fail
      refine (atNone_any P ref i w1 uw1).mono ?_
      rintro e w2 ⟨rfl, hb⟩
      have hBw2 : Below w.heap.size w w2 := below_next hBw1 hb
      have aw2 := aw1.below hb
      have hw2 := hw1.below hb
      have rw2 := rw1.below hb
      have uw2 : Unmade w2.heap.size w2 P := Unmade.next uw1 hb
      clear d0 d1 d2 d3 aw1 hw1 rw1 uw1 hBw1 hb
      have d0 : w2.cell? ⟨w.heap.size, 0, none⟩ = some (.int .u8 k) := aw2.c 0 _ rfl
      have d1 : w2.cell? ⟨w.heap.size, 1, none⟩ = some (.int .i64 ref) := aw2.c 1 _ rfl
      have d2 : w2.cell? ⟨w.heap.size, 2, none⟩ = some (.int .i64 i) := aw2.c 2 _ rfl
      have d3 : w2.cell? ⟨w.heap.size, 3, none⟩ = some (.int .i64 v) := aw2.c 3 _ rfl
      go_wp2_with fail
      refine (lenNone_any P ref w2 uw2).mono ?_
      rintro e w3 ⟨rfl, hb⟩
      have hBw3 : Below w.heap.size w w3 := below_next hBw2 hb
      have aw3 := aw2.below hb
      have hw3 := hw2.below hb
      have rw3 := rw2.below hb
      have uw3 : Unmade w3.heap.size w3 P := Unmade.next uw2 hb
      clear d0 d1 d2 d3 aw2 hw2 rw2 uw2 hBw2 hb
      have d0 : w3.cell? ⟨w.heap.size, 0, none⟩ = some (.int .u8 k) := aw3.c 0 _ rfl
      have d1 : w3.cell? ⟨w.heap.size, 1, none⟩ = some (.int .i64 ref) := aw3.c 1 _ rfl
      have d2 : w3.cell? ⟨w.heap.size, 2, none⟩ = some (.int .i64 i) := aw3.c 2 _ rfl
      have d3 : w3.cell? ⟨w.heap.size, 3, none⟩ = some (.int .i64 v) := aw3.c 3 _ rfl
      go_wp2_with fail
      refine (putNone_any P ref i v w3 uw3).mono ?_
      rintro e w4 ⟨rfl, hb⟩
      have hBw4 : Below w.heap.size w w4 := below_next hBw3 hb
      have aw4 := aw3.below hb
      have hw4 := hw3.below hb
      have rw4 := rw3.below hb
      have uw4 : Unmade w4.heap.size w4 P := Unmade.next uw3 hb
      clear d0 d1 d2 d3 aw3 hw3 rw3 uw3 hBw3 hb
      have d0 : w4.cell? ⟨w.heap.size, 0, none⟩ = some (.int .u8 k) := aw4.c 0 _ rfl
      have d1 : w4.cell? ⟨w.heap.size, 1, none⟩ = some (.int .i64 ref) := aw4.c 1 _ rfl
      have d2 : w4.cell? ⟨w.heap.size, 2, none⟩ = some (.int .i64 i) := aw4.c 2 _ rfl
      have d3 : w4.cell? ⟨w.heap.size, 3, none⟩ = some (.int .i64 v) := aw4.c 3 _ rfl
      go_wp2_with fail
      refine (usedNone_any P w4 uw4).mono ?_
      rintro e w5 ⟨rfl, hb⟩
      have hBw5 : Below w.heap.size w w5 := below_next hBw4 hb
      have aw5 := aw4.below hb
      have hw5 := hw4.below hb
      have rw5 := rw4.below hb
      have uw5 : Unmade w5.heap.size w5 P := Unmade.next uw4 hb
      clear d0 d1 d2 d3 aw4 hw4 rw4 uw4 hBw4 hb
      have d0 : w5.cell? ⟨w.heap.size, 0, none⟩ = some (.int .u8 k) := aw5.c 0 _ rfl
      have d1 : w5.cell? ⟨w.heap.size, 1, none⟩ = some (.int .i64 ref) := aw5.c 1 _ rfl
      have d2 : w5.cell? ⟨w.heap.size, 2, none⟩ = some (.int .i64 i) := aw5.c 2 _ rfl
      have d3 : w5.cell? ⟨w.heap.size, 3, none⟩ = some (.int .i64 v) := aw5.c 3 _ rfl
      go_wp2_with fail
      go_roundw
      case rel => exact ⟨q + 1, by omega, by go_num, aw5, hw5, rw5, hBw5⟩
      case measure => simp [intOf]; omega
    · go_wp2_with fail
      go_ret
      exact ⟨rfl, hBwr⟩
#print axioms heapNil_walk
end Go.Proofs.Ythllfeogchbihab
