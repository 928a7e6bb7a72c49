/- What is put forward is the own entry, or has a Seq above the replica's of its process: the law's walk. -/
import Derived.Test.YtkjmnmcekhnkmabAnnG
namespace Go.Proofs.Ytkjmnmcekhnkmab
open Go.RowKit Go.Shelf
set_option linter.unusedSimpArgs false
set_option linter.unusedVariables false

set_option maxRecDepth 100000 in
set_option maxHeartbeats 4000000 in
theorem never_g1 (i pr sq k me s ak ame : Int) (A B AA AB Z : Option Addr) (m ca n cb am aca an acb cz : Nat) (zl : Nat) (w : World) (h : greatB m n = true) :
    Calls Try.prog 9 #[.int .i64 i, .agg #[.int .i64 pr, .int .i64 sq, .int .u8 k, .int .i64 me, .slice A m ca, .slice B n cb], .agg #[.int .i64 s, .int .u8 ak, .int .i64 ame, .slice AA am aca, .slice AB an acb], .slice Z zl cz] w fun e w' => e = .returned (.bool true) ∧ Below w.heap.size w w' := by
  go_enter Try.func9, Try.ntmps9
  go_wp2_with fail
  obtain ⟨W, hW⟩ : ∃ W, (w.alloc (.cells #[.int .i64 pr, .int .i64 sq, .int .u8 k, .int .i64 me, .slice A m ca, .slice B n cb] 58)).alloc (.cells #[.int .i64 s, .int .u8 ak, .int .i64 ame, .slice AA am aca, .slice AB an acb] 60) = W := ⟨_, rfl⟩
  have z0 : W.heap.size = w.heap.size + 2 := by rw [← hW]; simp
  have hB0 : Below w.heap.size w W := by rw [← hW]; go_grown
  have b0 : Blk W w.heap.size [.int .i64 pr, .int .i64 sq, .int .u8 k, .int .i64 me, .slice A m ca, .slice B n cb] := by rw [← hW]; exact (Blk.new w _ _).alloc _
  have b1 : Blk W (w.heap.size + 1) [.int .i64 s, .int .u8 ak, .int .i64 ame, .slice AA am aca, .slice AB an acb] := by
    rw [← hW]
    have := Blk.new (w.alloc (.cells #[.int .i64 pr, .int .i64 sq, .int .u8 k, .int .i64 me, .slice A m ca, .slice B n cb] 58)) #[.int .i64 s, .int .u8 ak, .int .i64 ame, .slice AA am aca, .slice AB an acb] 60
    simpa using this
  rw [hW]
  clear hW
  refine (awake22_any _).mono ?_
  rintro e w1 ⟨rfl, hb1⟩
  have e0 := b0.below hb1
  have e1 := b1.below hb1
  have hBw1 : Below w.heap.size w w1 := below_next hB0 hb1
  clear b0 b1 z0 hb1 hB0
  have d0 : w1.cell? ⟨w.heap.size, 0, none⟩ = some (.int .i64 pr) := e0.c 0 _ rfl
  have d1 : w1.cell? ⟨w.heap.size, 1, none⟩ = some (.int .i64 sq) := e0.c 1 _ rfl
  have d2 : w1.cell? ⟨w.heap.size, 2, none⟩ = some (.int .u8 k) := e0.c 2 _ rfl
  have d3 : w1.cell? ⟨w.heap.size, 3, none⟩ = some (.int .i64 me) := e0.c 3 _ rfl
  have d4 : w1.cell? ⟨w.heap.size, 4, none⟩ = some (.slice A m ca) := e0.c 4 _ rfl
  have d5 : w1.cell? ⟨w.heap.size, 5, none⟩ = some (.slice B n cb) := e0.c 5 _ rfl
  have df : ∀ o, w1.frozen? ⟨w.heap.size, o, none⟩ = false := e0.f
  have a0 : w1.cell? ⟨w.heap.size + 1, 0, none⟩ = some (.int .i64 s) := e1.c 0 _ rfl
  have a1 : w1.cell? ⟨w.heap.size + 1, 1, none⟩ = some (.int .u8 ak) := e1.c 1 _ rfl
  have a2 : w1.cell? ⟨w.heap.size + 1, 2, none⟩ = some (.int .i64 ame) := e1.c 2 _ rfl
  have a3 : w1.cell? ⟨w.heap.size + 1, 3, none⟩ = some (.slice AA am aca) := e1.c 3 _ rfl
  have a4 : w1.cell? ⟨w.heap.size + 1, 4, none⟩ = some (.slice AB an acb) := e1.c 4 _ rfl
  have af : ∀ o, w1.frozen? ⟨w.heap.size + 1, o, none⟩ = false := e1.f
  go_wp2_with fail
  refine (great_any k me A B m ca n cb _).mono ?_
  rw [h]
  rintro e w2 ⟨rfl, hb⟩
  have e0' := e0.below hb
  have e1' := e1.below hb
  have hBw2 : Below w.heap.size w w2 := below_next hBw1 hb
  clear hb e0 e1
  clear d0 d1 d2 d3 d4 d5 df
  clear a0 a1 a2 a3 a4 af
  have e0 := e0'
  have e1 := e1'
  clear e0' e1'
  have d0 : w2.cell? ⟨w.heap.size, 0, none⟩ = some (.int .i64 pr) := e0.c 0 _ rfl
  have d1 : w2.cell? ⟨w.heap.size, 1, none⟩ = some (.int .i64 sq) := e0.c 1 _ rfl
  have d2 : w2.cell? ⟨w.heap.size, 2, none⟩ = some (.int .u8 k) := e0.c 2 _ rfl
  have d3 : w2.cell? ⟨w.heap.size, 3, none⟩ = some (.int .i64 me) := e0.c 3 _ rfl
  have d4 : w2.cell? ⟨w.heap.size, 4, none⟩ = some (.slice A m ca) := e0.c 4 _ rfl
  have d5 : w2.cell? ⟨w.heap.size, 5, none⟩ = some (.slice B n cb) := e0.c 5 _ rfl
  have df : ∀ o, w2.frozen? ⟨w.heap.size, o, none⟩ = false := e0.f
  have a0 : w2.cell? ⟨w.heap.size + 1, 0, none⟩ = some (.int .i64 s) := e1.c 0 _ rfl
  have a1 : w2.cell? ⟨w.heap.size + 1, 1, none⟩ = some (.int .u8 ak) := e1.c 1 _ rfl
  have a2 : w2.cell? ⟨w.heap.size + 1, 2, none⟩ = some (.int .i64 ame) := e1.c 2 _ rfl
  have a3 : w2.cell? ⟨w.heap.size + 1, 3, none⟩ = some (.slice AA am aca) := e1.c 3 _ rfl
  have a4 : w2.cell? ⟨w.heap.size + 1, 4, none⟩ = some (.slice AB an acb) := e1.c 4 _ rfl
  have af : ∀ o, w2.frozen? ⟨w.heap.size + 1, o, none⟩ = false := e1.f
  go_wp2_with fail
  go_ret
  exact ⟨rfl, hBw2⟩

set_option maxRecDepth 100000 in
set_option maxHeartbeats 4000000 in
theorem never_g2 (i pr sq k me s ak ame : Int) (A B AA AB Z : Option Addr) (m ca n cb am aca an acb cz : Nat) (zl : Nat) (w : World) (h : greatB m n = false) (h2 : greatB am an = true) :
    Calls Try.prog 9 #[.int .i64 i, .agg #[.int .i64 pr, .int .i64 sq, .int .u8 k, .int .i64 me, .slice A m ca, .slice B n cb], .agg #[.int .i64 s, .int .u8 ak, .int .i64 ame, .slice AA am aca, .slice AB an acb], .slice Z zl cz] w fun e w' => e = .returned (.bool true) ∧ Below w.heap.size w w' := by
  go_enter Try.func9, Try.ntmps9
  go_wp2_with fail
  obtain ⟨W, hW⟩ : ∃ W, (w.alloc (.cells #[.int .i64 pr, .int .i64 sq, .int .u8 k, .int .i64 me, .slice A m ca, .slice B n cb] 58)).alloc (.cells #[.int .i64 s, .int .u8 ak, .int .i64 ame, .slice AA am aca, .slice AB an acb] 60) = W := ⟨_, rfl⟩
  have z0 : W.heap.size = w.heap.size + 2 := by rw [← hW]; simp
  have hB0 : Below w.heap.size w W := by rw [← hW]; go_grown
  have b0 : Blk W w.heap.size [.int .i64 pr, .int .i64 sq, .int .u8 k, .int .i64 me, .slice A m ca, .slice B n cb] := by rw [← hW]; exact (Blk.new w _ _).alloc _
  have b1 : Blk W (w.heap.size + 1) [.int .i64 s, .int .u8 ak, .int .i64 ame, .slice AA am aca, .slice AB an acb] := by
    rw [← hW]
    have := Blk.new (w.alloc (.cells #[.int .i64 pr, .int .i64 sq, .int .u8 k, .int .i64 me, .slice A m ca, .slice B n cb] 58)) #[.int .i64 s, .int .u8 ak, .int .i64 ame, .slice AA am aca, .slice AB an acb] 60
    simpa using this
  rw [hW]
  clear hW
  refine (awake22_any _).mono ?_
  rintro e w1 ⟨rfl, hb1⟩
  have e0 := b0.below hb1
  have e1 := b1.below hb1
  have hBw1 : Below w.heap.size w w1 := below_next hB0 hb1
  clear b0 b1 z0 hb1 hB0
  have d0 : w1.cell? ⟨w.heap.size, 0, none⟩ = some (.int .i64 pr) := e0.c 0 _ rfl
  have d1 : w1.cell? ⟨w.heap.size, 1, none⟩ = some (.int .i64 sq) := e0.c 1 _ rfl
  have d2 : w1.cell? ⟨w.heap.size, 2, none⟩ = some (.int .u8 k) := e0.c 2 _ rfl
  have d3 : w1.cell? ⟨w.heap.size, 3, none⟩ = some (.int .i64 me) := e0.c 3 _ rfl
  have d4 : w1.cell? ⟨w.heap.size, 4, none⟩ = some (.slice A m ca) := e0.c 4 _ rfl
  have d5 : w1.cell? ⟨w.heap.size, 5, none⟩ = some (.slice B n cb) := e0.c 5 _ rfl
  have df : ∀ o, w1.frozen? ⟨w.heap.size, o, none⟩ = false := e0.f
  have a0 : w1.cell? ⟨w.heap.size + 1, 0, none⟩ = some (.int .i64 s) := e1.c 0 _ rfl
  have a1 : w1.cell? ⟨w.heap.size + 1, 1, none⟩ = some (.int .u8 ak) := e1.c 1 _ rfl
  have a2 : w1.cell? ⟨w.heap.size + 1, 2, none⟩ = some (.int .i64 ame) := e1.c 2 _ rfl
  have a3 : w1.cell? ⟨w.heap.size + 1, 3, none⟩ = some (.slice AA am aca) := e1.c 3 _ rfl
  have a4 : w1.cell? ⟨w.heap.size + 1, 4, none⟩ = some (.slice AB an acb) := e1.c 4 _ rfl
  have af : ∀ o, w1.frozen? ⟨w.heap.size + 1, o, none⟩ = false := e1.f
  go_wp2_with fail
  refine (great_any k me A B m ca n cb _).mono ?_
  rw [h]
  rintro e w2 ⟨rfl, hb⟩
  have e0' := e0.below hb
  have e1' := e1.below hb
  have hBw2 : Below w.heap.size w w2 := below_next hBw1 hb
  clear hb e0 e1
  clear d0 d1 d2 d3 d4 d5 df
  clear a0 a1 a2 a3 a4 af
  have e0 := e0'
  have e1 := e1'
  clear e0' e1'
  have d0 : w2.cell? ⟨w.heap.size, 0, none⟩ = some (.int .i64 pr) := e0.c 0 _ rfl
  have d1 : w2.cell? ⟨w.heap.size, 1, none⟩ = some (.int .i64 sq) := e0.c 1 _ rfl
  have d2 : w2.cell? ⟨w.heap.size, 2, none⟩ = some (.int .u8 k) := e0.c 2 _ rfl
  have d3 : w2.cell? ⟨w.heap.size, 3, none⟩ = some (.int .i64 me) := e0.c 3 _ rfl
  have d4 : w2.cell? ⟨w.heap.size, 4, none⟩ = some (.slice A m ca) := e0.c 4 _ rfl
  have d5 : w2.cell? ⟨w.heap.size, 5, none⟩ = some (.slice B n cb) := e0.c 5 _ rfl
  have df : ∀ o, w2.frozen? ⟨w.heap.size, o, none⟩ = false := e0.f
  have a0 : w2.cell? ⟨w.heap.size + 1, 0, none⟩ = some (.int .i64 s) := e1.c 0 _ rfl
  have a1 : w2.cell? ⟨w.heap.size + 1, 1, none⟩ = some (.int .u8 ak) := e1.c 1 _ rfl
  have a2 : w2.cell? ⟨w.heap.size + 1, 2, none⟩ = some (.int .i64 ame) := e1.c 2 _ rfl
  have a3 : w2.cell? ⟨w.heap.size + 1, 3, none⟩ = some (.slice AA am aca) := e1.c 3 _ rfl
  have a4 : w2.cell? ⟨w.heap.size + 1, 4, none⟩ = some (.slice AB an acb) := e1.c 4 _ rfl
  have af : ∀ o, w2.frozen? ⟨w.heap.size + 1, o, none⟩ = false := e1.f
  go_wp2_with fail
  refine (great_any ak ame AA AB am aca an acb _).mono ?_
  rw [h2]
  rintro e w3 ⟨rfl, hb⟩
  have e0' := e0.below hb
  have e1' := e1.below hb
  have hBw3 : Below w.heap.size w w3 := below_next hBw2 hb
  clear hb e0 e1
  clear d0 d1 d2 d3 d4 d5 df
  clear a0 a1 a2 a3 a4 af
  have e0 := e0'
  have e1 := e1'
  clear e0' e1'
  have d0 : w3.cell? ⟨w.heap.size, 0, none⟩ = some (.int .i64 pr) := e0.c 0 _ rfl
  have d1 : w3.cell? ⟨w.heap.size, 1, none⟩ = some (.int .i64 sq) := e0.c 1 _ rfl
  have d2 : w3.cell? ⟨w.heap.size, 2, none⟩ = some (.int .u8 k) := e0.c 2 _ rfl
  have d3 : w3.cell? ⟨w.heap.size, 3, none⟩ = some (.int .i64 me) := e0.c 3 _ rfl
  have d4 : w3.cell? ⟨w.heap.size, 4, none⟩ = some (.slice A m ca) := e0.c 4 _ rfl
  have d5 : w3.cell? ⟨w.heap.size, 5, none⟩ = some (.slice B n cb) := e0.c 5 _ rfl
  have df : ∀ o, w3.frozen? ⟨w.heap.size, o, none⟩ = false := e0.f
  have a0 : w3.cell? ⟨w.heap.size + 1, 0, none⟩ = some (.int .i64 s) := e1.c 0 _ rfl
  have a1 : w3.cell? ⟨w.heap.size + 1, 1, none⟩ = some (.int .u8 ak) := e1.c 1 _ rfl
  have a2 : w3.cell? ⟨w.heap.size + 1, 2, none⟩ = some (.int .i64 ame) := e1.c 2 _ rfl
  have a3 : w3.cell? ⟨w.heap.size + 1, 3, none⟩ = some (.slice AA am aca) := e1.c 3 _ rfl
  have a4 : w3.cell? ⟨w.heap.size + 1, 4, none⟩ = some (.slice AB an acb) := e1.c 4 _ rfl
  have af : ∀ o, w3.frozen? ⟨w.heap.size + 1, o, none⟩ = false := e1.f
  go_wp2_with fail
  go_ret
  exact ⟨rfl, hBw3⟩

set_option maxRecDepth 100000 in
set_option maxHeartbeats 4000000 in
theorem never_g3 (i pr sq k me s ak ame : Int) (A B AA AB Z : Option Addr) (m ca n cb am aca an acb cz : Nat) (zl : Nat) (w : World) (h : greatB m n = false) (h2 : greatB am an = false) (h3 : 80 < (zl : Int)) :
    Calls Try.prog 9 #[.int .i64 i, .agg #[.int .i64 pr, .int .i64 sq, .int .u8 k, .int .i64 me, .slice A m ca, .slice B n cb], .agg #[.int .i64 s, .int .u8 ak, .int .i64 ame, .slice AA am aca, .slice AB an acb], .slice Z zl cz] w fun e w' => e = .returned (.bool true) ∧ Below w.heap.size w w' := by
  go_enter Try.func9, Try.ntmps9
  go_wp2_with fail
  obtain ⟨W, hW⟩ : ∃ W, (w.alloc (.cells #[.int .i64 pr, .int .i64 sq, .int .u8 k, .int .i64 me, .slice A m ca, .slice B n cb] 58)).alloc (.cells #[.int .i64 s, .int .u8 ak, .int .i64 ame, .slice AA am aca, .slice AB an acb] 60) = W := ⟨_, rfl⟩
  have z0 : W.heap.size = w.heap.size + 2 := by rw [← hW]; simp
  have hB0 : Below w.heap.size w W := by rw [← hW]; go_grown
  have b0 : Blk W w.heap.size [.int .i64 pr, .int .i64 sq, .int .u8 k, .int .i64 me, .slice A m ca, .slice B n cb] := by rw [← hW]; exact (Blk.new w _ _).alloc _
  have b1 : Blk W (w.heap.size + 1) [.int .i64 s, .int .u8 ak, .int .i64 ame, .slice AA am aca, .slice AB an acb] := by
    rw [← hW]
    have := Blk.new (w.alloc (.cells #[.int .i64 pr, .int .i64 sq, .int .u8 k, .int .i64 me, .slice A m ca, .slice B n cb] 58)) #[.int .i64 s, .int .u8 ak, .int .i64 ame, .slice AA am aca, .slice AB an acb] 60
    simpa using this
  rw [hW]
  clear hW
  refine (awake22_any _).mono ?_
  rintro e w1 ⟨rfl, hb1⟩
  have e0 := b0.below hb1
  have e1 := b1.below hb1
  have hBw1 : Below w.heap.size w w1 := below_next hB0 hb1
  clear b0 b1 z0 hb1 hB0
  have d0 : w1.cell? ⟨w.heap.size, 0, none⟩ = some (.int .i64 pr) := e0.c 0 _ rfl
  have d1 : w1.cell? ⟨w.heap.size, 1, none⟩ = some (.int .i64 sq) := e0.c 1 _ rfl
  have d2 : w1.cell? ⟨w.heap.size, 2, none⟩ = some (.int .u8 k) := e0.c 2 _ rfl
  have d3 : w1.cell? ⟨w.heap.size, 3, none⟩ = some (.int .i64 me) := e0.c 3 _ rfl
  have d4 : w1.cell? ⟨w.heap.size, 4, none⟩ = some (.slice A m ca) := e0.c 4 _ rfl
  have d5 : w1.cell? ⟨w.heap.size, 5, none⟩ = some (.slice B n cb) := e0.c 5 _ rfl
  have df : ∀ o, w1.frozen? ⟨w.heap.size, o, none⟩ = false := e0.f
  have a0 : w1.cell? ⟨w.heap.size + 1, 0, none⟩ = some (.int .i64 s) := e1.c 0 _ rfl
  have a1 : w1.cell? ⟨w.heap.size + 1, 1, none⟩ = some (.int .u8 ak) := e1.c 1 _ rfl
  have a2 : w1.cell? ⟨w.heap.size + 1, 2, none⟩ = some (.int .i64 ame) := e1.c 2 _ rfl
  have a3 : w1.cell? ⟨w.heap.size + 1, 3, none⟩ = some (.slice AA am aca) := e1.c 3 _ rfl
  have a4 : w1.cell? ⟨w.heap.size + 1, 4, none⟩ = some (.slice AB an acb) := e1.c 4 _ rfl
  have af : ∀ o, w1.frozen? ⟨w.heap.size + 1, o, none⟩ = false := e1.f
  go_wp2_with fail
  refine (great_any k me A B m ca n cb _).mono ?_
  rw [h]
  rintro e w2 ⟨rfl, hb⟩
  have e0' := e0.below hb
  have e1' := e1.below hb
  have hBw2 : Below w.heap.size w w2 := below_next hBw1 hb
  clear hb e0 e1
  clear d0 d1 d2 d3 d4 d5 df
  clear a0 a1 a2 a3 a4 af
  have e0 := e0'
  have e1 := e1'
  clear e0' e1'
  have d0 : w2.cell? ⟨w.heap.size, 0, none⟩ = some (.int .i64 pr) := e0.c 0 _ rfl
  have d1 : w2.cell? ⟨w.heap.size, 1, none⟩ = some (.int .i64 sq) := e0.c 1 _ rfl
  have d2 : w2.cell? ⟨w.heap.size, 2, none⟩ = some (.int .u8 k) := e0.c 2 _ rfl
  have d3 : w2.cell? ⟨w.heap.size, 3, none⟩ = some (.int .i64 me) := e0.c 3 _ rfl
  have d4 : w2.cell? ⟨w.heap.size, 4, none⟩ = some (.slice A m ca) := e0.c 4 _ rfl
  have d5 : w2.cell? ⟨w.heap.size, 5, none⟩ = some (.slice B n cb) := e0.c 5 _ rfl
  have df : ∀ o, w2.frozen? ⟨w.heap.size, o, none⟩ = false := e0.f
  have a0 : w2.cell? ⟨w.heap.size + 1, 0, none⟩ = some (.int .i64 s) := e1.c 0 _ rfl
  have a1 : w2.cell? ⟨w.heap.size + 1, 1, none⟩ = some (.int .u8 ak) := e1.c 1 _ rfl
  have a2 : w2.cell? ⟨w.heap.size + 1, 2, none⟩ = some (.int .i64 ame) := e1.c 2 _ rfl
  have a3 : w2.cell? ⟨w.heap.size + 1, 3, none⟩ = some (.slice AA am aca) := e1.c 3 _ rfl
  have a4 : w2.cell? ⟨w.heap.size + 1, 4, none⟩ = some (.slice AB an acb) := e1.c 4 _ rfl
  have af : ∀ o, w2.frozen? ⟨w.heap.size + 1, o, none⟩ = false := e1.f
  go_wp2_with fail
  refine (great_any ak ame AA AB am aca an acb _).mono ?_
  rw [h2]
  rintro e w3 ⟨rfl, hb⟩
  have e0' := e0.below hb
  have e1' := e1.below hb
  have hBw3 : Below w.heap.size w w3 := below_next hBw2 hb
  clear hb e0 e1
  clear d0 d1 d2 d3 d4 d5 df
  clear a0 a1 a2 a3 a4 af
  have e0 := e0'
  have e1 := e1'
  clear e0' e1'
  have d0 : w3.cell? ⟨w.heap.size, 0, none⟩ = some (.int .i64 pr) := e0.c 0 _ rfl
  have d1 : w3.cell? ⟨w.heap.size, 1, none⟩ = some (.int .i64 sq) := e0.c 1 _ rfl
  have d2 : w3.cell? ⟨w.heap.size, 2, none⟩ = some (.int .u8 k) := e0.c 2 _ rfl
  have d3 : w3.cell? ⟨w.heap.size, 3, none⟩ = some (.int .i64 me) := e0.c 3 _ rfl
  have d4 : w3.cell? ⟨w.heap.size, 4, none⟩ = some (.slice A m ca) := e0.c 4 _ rfl
  have d5 : w3.cell? ⟨w.heap.size, 5, none⟩ = some (.slice B n cb) := e0.c 5 _ rfl
  have df : ∀ o, w3.frozen? ⟨w.heap.size, o, none⟩ = false := e0.f
  have a0 : w3.cell? ⟨w.heap.size + 1, 0, none⟩ = some (.int .i64 s) := e1.c 0 _ rfl
  have a1 : w3.cell? ⟨w.heap.size + 1, 1, none⟩ = some (.int .u8 ak) := e1.c 1 _ rfl
  have a2 : w3.cell? ⟨w.heap.size + 1, 2, none⟩ = some (.int .i64 ame) := e1.c 2 _ rfl
  have a3 : w3.cell? ⟨w.heap.size + 1, 3, none⟩ = some (.slice AA am aca) := e1.c 3 _ rfl
  have a4 : w3.cell? ⟨w.heap.size + 1, 4, none⟩ = some (.slice AB an acb) := e1.c 4 _ rfl
  have af : ∀ o, w3.frozen? ⟨w.heap.size + 1, o, none⟩ = false := e1.f
  go_wp2_with fail
  go_ret
  exact ⟨rfl, hBw3⟩

set_option maxRecDepth 100000 in
set_option maxHeartbeats 4000000 in
theorem never_own (i pr sq k me s ak ame : Int) (A B AA AB Z : Option Addr) (m ca n cb am aca an acb cz : Nat) (xs ys axs ays : List Value) (zs : List Int) (w : World)
    (i1 : -9223372036854775808 ≤ i) (i2 : i ≤ 9223372036854775807) (ho : OpIn w.heap.size w A m B n xs ys) (ha : OpIn w.heap.size w AA am AB an axs ays) (hI : IntsAt w.heap.size w Z zs) (hz : zs.length ≤ 80)
    (h : greatB m n = false) (h2 : greatB am an = false) (hpB : pickB i pr s zs = false) :
    Calls Try.prog 9 #[.int .i64 i, .agg #[.int .i64 pr, .int .i64 sq, .int .u8 k, .int .i64 me, .slice A m ca, .slice B n cb], .agg #[.int .i64 s, .int .u8 ak, .int .i64 ame, .slice AA am aca, .slice AB an acb], .slice Z zs.length cz] w fun e w' => e = .returned (.bool true) ∧ Below w.heap.size w w' := by
  have hpB' : 0 ≤ whoseI i zs.length → ¬ whoseI i zs.length = pr → ¬ pendB s (whoseI i zs.length) zs = true := by
    intro h0 h1 h2
    have : helpsB i zs.length pr = true := by
      unfold helpsB
      rw [decide_eq_true h0, decide_eq_false h1]
      rfl
    unfold pickB at hpB
    rw [this, h2] at hpB
    cases hpB
  have hpk : ∀ W, Below w.heap.size w W → Calls Try.prog 33 #[.int .i64 i, .agg #[.int .i64 pr, .int .i64 sq, .int .u8 k, .int .i64 me, .slice A m ca, .slice B n cb], .agg #[.int .i64 s, .int .u8 ak, .int .i64 ame, .slice AA am aca, .slice AB an acb], .slice Z zs.length cz] W fun e w' => Picked W pr sq k me m n xs ys e w' := fun W hW =>
    pick_own i pr sq k me s ak ame A B AA AB Z m ca n cb am aca an acb cz xs ys axs ays zs W i1 i2 ((ho.below hW).le hW.size) ((ha.below hW).le hW.size) (fun j hj => by
        obtain ⟨b, off, h1, h2, h3⟩ := hI j hj
        exact ⟨b, off, h1, Nat.lt_of_lt_of_le h2 hW.size, (hW.cell (p := ⟨b, off + j, none⟩) h2).trans h3⟩) (by omega) hpB
  have hwh : ∀ W, Calls Try.prog 29 #[.int .i64 i, .int .i64 zs.length] W fun e w' => e = .returned (.int .i64 (whoseI i zs.length)) ∧ w' = W := fun W => whose_any i zs.length W i1 i2
  have hpe : ∀ W, Below w.heap.size w W → Calls Try.prog 30 #[.agg #[.int .i64 s, .int .u8 ak, .int .i64 ame, .slice AA am aca, .slice AB an acb], .int .i64 (whoseI i zs.length), .slice Z zs.length cz] W fun e w' =>
      e = .returned (.bool (pendB s (whoseI i zs.length) zs)) ∧ Below W.heap.size W w' := fun W hW => pending_any s ak ame (whoseI i zs.length) AA AB am aca an acb Z cz zs (by omega) W (fun j hj => by
        obtain ⟨b, off, h1, h2, h3⟩ := hI j hj
        exact ⟨b, off, h1, Nat.lt_of_lt_of_le h2 hW.size, (hW.cell (p := ⟨b, off + j, none⟩) h2).trans h3⟩)
  have HPK := Lib.hid hpk
  have HWH := Lib.hid hwh
  have HPE := Lib.hid hpe
  have HI := Lib.hid hI
  have hzl : (zs.length : Int) ≤ 80 := by omega
  have HZ := Lib.hid hz
  clear hpk hwh hpe ho ha hI hz hpB
  by_cases hq0 : 0 ≤ whoseI i zs.length
  · have hql : whoseI i zs.length < zs.length := by
      unfold whoseI at *
      split at hq0
      · omega
      · rename_i hn
        rw [if_neg hn]
        exact Int.emod_lt_of_pos _ (by omega)
    obtain ⟨q, hq⟩ := Int.eq_ofNat_of_zero_le hq0
    rw [hq] at hpB' HWH HPE hq0 hql
    clear hq
    have q0 : (0 : Int) ≤ (q : Int) := hq0
    have q1 : (q : Int) < (zs.length : Int) := hql
    have q2 : q < zs.length := by omega
    obtain ⟨X, hX⟩ : ∃ X, zs[q]?.getD 0 = X := ⟨_, rfl⟩
    have HX := Lib.hid hX
    by_cases hqp : (q : Int) = pr
    · have e1 : ((q : Int) == pr) = true := by rw [beq_iff_eq]; exact hqp
      have e2 : ((q : Int) != pr) = false := by simp [hqp]
      clear hqp hpB' hX
      go_enter Try.func9, Try.ntmps9
      go_wp2_with fail
      obtain ⟨W, hW⟩ : ∃ W, (w.alloc (.cells #[.int .i64 pr, .int .i64 sq, .int .u8 k, .int .i64 me, .slice A m ca, .slice B n cb] 58)).alloc (.cells #[.int .i64 s, .int .u8 ak, .int .i64 ame, .slice AA am aca, .slice AB an acb] 60) = W := ⟨_, rfl⟩
      have z0 : W.heap.size = w.heap.size + 2 := by rw [← hW]; simp
      have hB0 : Below w.heap.size w W := by rw [← hW]; go_grown
      have b0 : Blk W w.heap.size [.int .i64 pr, .int .i64 sq, .int .u8 k, .int .i64 me, .slice A m ca, .slice B n cb] := by rw [← hW]; exact (Blk.new w _ _).alloc _
      have b1 : Blk W (w.heap.size + 1) [.int .i64 s, .int .u8 ak, .int .i64 ame, .slice AA am aca, .slice AB an acb] := by
        rw [← hW]
        have := Blk.new (w.alloc (.cells #[.int .i64 pr, .int .i64 sq, .int .u8 k, .int .i64 me, .slice A m ca, .slice B n cb] 58)) #[.int .i64 s, .int .u8 ak, .int .i64 ame, .slice AA am aca, .slice AB an acb] 60
        simpa using this
      rw [hW]
      clear hW
      refine (awake22_any _).mono ?_
      rintro e w1 ⟨rfl, hb1⟩
      have e0 := b0.below hb1
      have e1 := b1.below hb1
      have hBw1 : Below w.heap.size w w1 := below_next hB0 hb1
      clear b0 b1 z0 hb1 hB0
      have d0 : w1.cell? ⟨w.heap.size, 0, none⟩ = some (.int .i64 pr) := e0.c 0 _ rfl
      have d1 : w1.cell? ⟨w.heap.size, 1, none⟩ = some (.int .i64 sq) := e0.c 1 _ rfl
      have d2 : w1.cell? ⟨w.heap.size, 2, none⟩ = some (.int .u8 k) := e0.c 2 _ rfl
      have d3 : w1.cell? ⟨w.heap.size, 3, none⟩ = some (.int .i64 me) := e0.c 3 _ rfl
      have d4 : w1.cell? ⟨w.heap.size, 4, none⟩ = some (.slice A m ca) := e0.c 4 _ rfl
      have d5 : w1.cell? ⟨w.heap.size, 5, none⟩ = some (.slice B n cb) := e0.c 5 _ rfl
      have df : ∀ o, w1.frozen? ⟨w.heap.size, o, none⟩ = false := e0.f
      have a0 : w1.cell? ⟨w.heap.size + 1, 0, none⟩ = some (.int .i64 s) := e1.c 0 _ rfl
      have a1 : w1.cell? ⟨w.heap.size + 1, 1, none⟩ = some (.int .u8 ak) := e1.c 1 _ rfl
      have a2 : w1.cell? ⟨w.heap.size + 1, 2, none⟩ = some (.int .i64 ame) := e1.c 2 _ rfl
      have a3 : w1.cell? ⟨w.heap.size + 1, 3, none⟩ = some (.slice AA am aca) := e1.c 3 _ rfl
      have a4 : w1.cell? ⟨w.heap.size + 1, 4, none⟩ = some (.slice AB an acb) := e1.c 4 _ rfl
      have af : ∀ o, w1.frozen? ⟨w.heap.size + 1, o, none⟩ = false := e1.f
      go_wp2_with fail
      refine (great_any k me A B m ca n cb _).mono ?_
      rw [h]
      rintro e w2 ⟨rfl, hb⟩
      have e0' := e0.below hb
      have e1' := e1.below hb
      have hBw2 : Below w.heap.size w w2 := below_next hBw1 hb
      clear hb e0 e1
      clear d0 d1 d2 d3 d4 d5 df
      clear a0 a1 a2 a3 a4 af
      have e0 := e0'
      have e1 := e1'
      clear e0' e1'
      have d0 : w2.cell? ⟨w.heap.size, 0, none⟩ = some (.int .i64 pr) := e0.c 0 _ rfl
      have d1 : w2.cell? ⟨w.heap.size, 1, none⟩ = some (.int .i64 sq) := e0.c 1 _ rfl
      have d2 : w2.cell? ⟨w.heap.size, 2, none⟩ = some (.int .u8 k) := e0.c 2 _ rfl
      have d3 : w2.cell? ⟨w.heap.size, 3, none⟩ = some (.int .i64 me) := e0.c 3 _ rfl
      have d4 : w2.cell? ⟨w.heap.size, 4, none⟩ = some (.slice A m ca) := e0.c 4 _ rfl
      have d5 : w2.cell? ⟨w.heap.size, 5, none⟩ = some (.slice B n cb) := e0.c 5 _ rfl
      have df : ∀ o, w2.frozen? ⟨w.heap.size, o, none⟩ = false := e0.f
      have a0 : w2.cell? ⟨w.heap.size + 1, 0, none⟩ = some (.int .i64 s) := e1.c 0 _ rfl
      have a1 : w2.cell? ⟨w.heap.size + 1, 1, none⟩ = some (.int .u8 ak) := e1.c 1 _ rfl
      have a2 : w2.cell? ⟨w.heap.size + 1, 2, none⟩ = some (.int .i64 ame) := e1.c 2 _ rfl
      have a3 : w2.cell? ⟨w.heap.size + 1, 3, none⟩ = some (.slice AA am aca) := e1.c 3 _ rfl
      have a4 : w2.cell? ⟨w.heap.size + 1, 4, none⟩ = some (.slice AB an acb) := e1.c 4 _ rfl
      have af : ∀ o, w2.frozen? ⟨w.heap.size + 1, o, none⟩ = false := e1.f
      go_wp2_with fail
      refine (great_any ak ame AA AB am aca an acb _).mono ?_
      rw [h2]
      rintro e w3 ⟨rfl, hb⟩
      have e0' := e0.below hb
      have e1' := e1.below hb
      have hBw3 : Below w.heap.size w w3 := below_next hBw2 hb
      clear hb e0 e1
      clear d0 d1 d2 d3 d4 d5 df
      clear a0 a1 a2 a3 a4 af
      have e0 := e0'
      have e1 := e1'
      clear e0' e1'
      have d0 : w3.cell? ⟨w.heap.size, 0, none⟩ = some (.int .i64 pr) := e0.c 0 _ rfl
      have d1 : w3.cell? ⟨w.heap.size, 1, none⟩ = some (.int .i64 sq) := e0.c 1 _ rfl
      have d2 : w3.cell? ⟨w.heap.size, 2, none⟩ = some (.int .u8 k) := e0.c 2 _ rfl
      have d3 : w3.cell? ⟨w.heap.size, 3, none⟩ = some (.int .i64 me) := e0.c 3 _ rfl
      have d4 : w3.cell? ⟨w.heap.size, 4, none⟩ = some (.slice A m ca) := e0.c 4 _ rfl
      have d5 : w3.cell? ⟨w.heap.size, 5, none⟩ = some (.slice B n cb) := e0.c 5 _ rfl
      have df : ∀ o, w3.frozen? ⟨w.heap.size, o, none⟩ = false := e0.f
      have a0 : w3.cell? ⟨w.heap.size + 1, 0, none⟩ = some (.int .i64 s) := e1.c 0 _ rfl
      have a1 : w3.cell? ⟨w.heap.size + 1, 1, none⟩ = some (.int .u8 ak) := e1.c 1 _ rfl
      have a2 : w3.cell? ⟨w.heap.size + 1, 2, none⟩ = some (.int .i64 ame) := e1.c 2 _ rfl
      have a3 : w3.cell? ⟨w.heap.size + 1, 3, none⟩ = some (.slice AA am aca) := e1.c 3 _ rfl
      have a4 : w3.cell? ⟨w.heap.size + 1, 4, none⟩ = some (.slice AB an acb) := e1.c 4 _ rfl
      have af : ∀ o, w3.frozen? ⟨w.heap.size + 1, o, none⟩ = false := e1.f
      go_wp2_with fail
      refine (HPK.out _ hBw3).mono ?_
      rintro e w4 ⟨A9, c9, B9, d9, rfl, hb, -⟩
      have e0' := e0.below hb
      have e1' := e1.below hb
      have hBw4 : Below w.heap.size w w4 := below_next hBw3 hb
      clear hb e0 e1
      clear d0 d1 d2 d3 d4 d5 df
      clear a0 a1 a2 a3 a4 af
      have d0 : w4.cell? ⟨w.heap.size, 0, none⟩ = some (.int .i64 pr) := e0'.c 0 _ rfl
      have d1 : w4.cell? ⟨w.heap.size, 1, none⟩ = some (.int .i64 sq) := e0'.c 1 _ rfl
      have d2 : w4.cell? ⟨w.heap.size, 2, none⟩ = some (.int .u8 k) := e0'.c 2 _ rfl
      have d3 : w4.cell? ⟨w.heap.size, 3, none⟩ = some (.int .i64 me) := e0'.c 3 _ rfl
      have d4 : w4.cell? ⟨w.heap.size, 4, none⟩ = some (.slice A m ca) := e0'.c 4 _ rfl
      have d5 : w4.cell? ⟨w.heap.size, 5, none⟩ = some (.slice B n cb) := e0'.c 5 _ rfl
      have df : ∀ o, w4.frozen? ⟨w.heap.size, o, none⟩ = false := e0'.f
      have a0 : w4.cell? ⟨w.heap.size + 1, 0, none⟩ = some (.int .i64 s) := e1'.c 0 _ rfl
      have a1 : w4.cell? ⟨w.heap.size + 1, 1, none⟩ = some (.int .u8 ak) := e1'.c 1 _ rfl
      have a2 : w4.cell? ⟨w.heap.size + 1, 2, none⟩ = some (.int .i64 ame) := e1'.c 2 _ rfl
      have a3 : w4.cell? ⟨w.heap.size + 1, 3, none⟩ = some (.slice AA am aca) := e1'.c 3 _ rfl
      have a4 : w4.cell? ⟨w.heap.size + 1, 4, none⟩ = some (.slice AB an acb) := e1'.c 4 _ rfl
      have af : ∀ o, w4.frozen? ⟨w.heap.size + 1, o, none⟩ = false := e1'.f
      go_wp2_with fail
      obtain ⟨W5, hW5⟩ : ∃ W5, w4.alloc (.cells #[.int .i64 pr, .int .i64 sq, .int .u8 k, .int .i64 me, .slice A9 m c9, .slice B9 n d9] 58) = W5 := ⟨_, rfl⟩
      have n0 : Blk W5 w.heap.size [.int .i64 pr, .int .i64 sq, .int .u8 k, .int .i64 me, .slice A m ca, .slice B n cb] := by rw [← hW5]; exact e0'.alloc _
      have n1 : Blk W5 (w.heap.size + 1) [.int .i64 s, .int .u8 ak, .int .i64 ame, .slice AA am aca, .slice AB an acb] := by rw [← hW5]; exact e1'.alloc _
      have n9 : Blk W5 w4.heap.size [.int .i64 pr, .int .i64 sq, .int .u8 k, .int .i64 me, .slice A9 m c9, .slice B9 n d9] := by rw [← hW5]; exact Blk.new w4 _ _
      have hBW5 : Below w.heap.size w W5 := by rw [← hW5]; exact hBw4.alloc hBw4.size _
      rw [hW5]
      clear hW5 e0' e1'
      clear d0 d1 d2 d3 d4 d5 df
      clear a0 a1 a2 a3 a4 af
      have d0 : W5.cell? ⟨w.heap.size, 0, none⟩ = some (.int .i64 pr) := n0.c 0 _ rfl
      have d1 : W5.cell? ⟨w.heap.size, 1, none⟩ = some (.int .i64 sq) := n0.c 1 _ rfl
      have d2 : W5.cell? ⟨w.heap.size, 2, none⟩ = some (.int .u8 k) := n0.c 2 _ rfl
      have d3 : W5.cell? ⟨w.heap.size, 3, none⟩ = some (.int .i64 me) := n0.c 3 _ rfl
      have d4 : W5.cell? ⟨w.heap.size, 4, none⟩ = some (.slice A m ca) := n0.c 4 _ rfl
      have d5 : W5.cell? ⟨w.heap.size, 5, none⟩ = some (.slice B n cb) := n0.c 5 _ rfl
      have df : ∀ o, W5.frozen? ⟨w.heap.size, o, none⟩ = false := n0.f
      have a0 : W5.cell? ⟨w.heap.size + 1, 0, none⟩ = some (.int .i64 s) := n1.c 0 _ rfl
      have a1 : W5.cell? ⟨w.heap.size + 1, 1, none⟩ = some (.int .u8 ak) := n1.c 1 _ rfl
      have a2 : W5.cell? ⟨w.heap.size + 1, 2, none⟩ = some (.int .i64 ame) := n1.c 2 _ rfl
      have a3 : W5.cell? ⟨w.heap.size + 1, 3, none⟩ = some (.slice AA am aca) := n1.c 3 _ rfl
      have a4 : W5.cell? ⟨w.heap.size + 1, 4, none⟩ = some (.slice AB an acb) := n1.c 4 _ rfl
      have af : ∀ o, W5.frozen? ⟨w.heap.size + 1, o, none⟩ = false := n1.f
      have r0 : W5.cell? ⟨w4.heap.size, 0, none⟩ = some (.int .i64 pr) := n9.c 0 _ rfl
      have r1 : W5.cell? ⟨w4.heap.size, 1, none⟩ = some (.int .i64 sq) := n9.c 1 _ rfl
      have r2 : W5.cell? ⟨w4.heap.size, 2, none⟩ = some (.int .u8 k) := n9.c 2 _ rfl
      have r3 : W5.cell? ⟨w4.heap.size, 3, none⟩ = some (.int .i64 me) := n9.c 3 _ rfl
      have r4 : W5.cell? ⟨w4.heap.size, 4, none⟩ = some (.slice A9 m c9) := n9.c 4 _ rfl
      have r5 : W5.cell? ⟨w4.heap.size, 5, none⟩ = some (.slice B9 n d9) := n9.c 5 _ rfl
      have rf : ∀ o, W5.frozen? ⟨w4.heap.size, o, none⟩ = false := n9.f
      obtain ⟨zb, zo, rfl, zlt, zc⟩ := HI.out q (by omega)
      have zc' : W5.cell? ⟨zb, zo + q, none⟩ = some (.int .i64 X) := by
        rw [← HX.out]
        exact (hBW5.cell (p := ⟨zb, zo + q, none⟩) zlt).trans zc
      clear zc
      refine (HWH.out _).mono ?_
      rintro e w' ⟨rfl, hq⟩
      subst hq
      go_wp2_with fail
      go_quiet (fail)
      go_wp2_with fail
      go_ret
      exact ⟨rfl, below_drewN hBW5 _⟩

    · have e1 : ((q : Int) == pr) = false := by rw [beq_eq_false_iff_ne]; exact hqp
      have e2 : ((q : Int) != pr) = true := by simp [hqp]
      have e3 : ¬ X < s := by
        intro hlt
        rw [← hX] at hlt
        refine hpB' q0 hqp ?_
        unfold pendB
        rw [decide_eq_true_iff]
        exact ⟨q0, q1, by simpa using hlt⟩
      have e4 : decide (X < s) = false := decide_eq_false e3
      clear hqp hpB' hX
      go_enter Try.func9, Try.ntmps9
      go_wp2_with fail
      obtain ⟨W, hW⟩ : ∃ W, (w.alloc (.cells #[.int .i64 pr, .int .i64 sq, .int .u8 k, .int .i64 me, .slice A m ca, .slice B n cb] 58)).alloc (.cells #[.int .i64 s, .int .u8 ak, .int .i64 ame, .slice AA am aca, .slice AB an acb] 60) = W := ⟨_, rfl⟩
      have z0 : W.heap.size = w.heap.size + 2 := by rw [← hW]; simp
      have hB0 : Below w.heap.size w W := by rw [← hW]; go_grown
      have b0 : Blk W w.heap.size [.int .i64 pr, .int .i64 sq, .int .u8 k, .int .i64 me, .slice A m ca, .slice B n cb] := by rw [← hW]; exact (Blk.new w _ _).alloc _
      have b1 : Blk W (w.heap.size + 1) [.int .i64 s, .int .u8 ak, .int .i64 ame, .slice AA am aca, .slice AB an acb] := by
        rw [← hW]
        have := Blk.new (w.alloc (.cells #[.int .i64 pr, .int .i64 sq, .int .u8 k, .int .i64 me, .slice A m ca, .slice B n cb] 58)) #[.int .i64 s, .int .u8 ak, .int .i64 ame, .slice AA am aca, .slice AB an acb] 60
        simpa using this
      rw [hW]
      clear hW
      refine (awake22_any _).mono ?_
      rintro e w1 ⟨rfl, hb1⟩
      have e0 := b0.below hb1
      have e1 := b1.below hb1
      have hBw1 : Below w.heap.size w w1 := below_next hB0 hb1
      clear b0 b1 z0 hb1 hB0
      have d0 : w1.cell? ⟨w.heap.size, 0, none⟩ = some (.int .i64 pr) := e0.c 0 _ rfl
      have d1 : w1.cell? ⟨w.heap.size, 1, none⟩ = some (.int .i64 sq) := e0.c 1 _ rfl
      have d2 : w1.cell? ⟨w.heap.size, 2, none⟩ = some (.int .u8 k) := e0.c 2 _ rfl
      have d3 : w1.cell? ⟨w.heap.size, 3, none⟩ = some (.int .i64 me) := e0.c 3 _ rfl
      have d4 : w1.cell? ⟨w.heap.size, 4, none⟩ = some (.slice A m ca) := e0.c 4 _ rfl
      have d5 : w1.cell? ⟨w.heap.size, 5, none⟩ = some (.slice B n cb) := e0.c 5 _ rfl
      have df : ∀ o, w1.frozen? ⟨w.heap.size, o, none⟩ = false := e0.f
      have a0 : w1.cell? ⟨w.heap.size + 1, 0, none⟩ = some (.int .i64 s) := e1.c 0 _ rfl
      have a1 : w1.cell? ⟨w.heap.size + 1, 1, none⟩ = some (.int .u8 ak) := e1.c 1 _ rfl
      have a2 : w1.cell? ⟨w.heap.size + 1, 2, none⟩ = some (.int .i64 ame) := e1.c 2 _ rfl
      have a3 : w1.cell? ⟨w.heap.size + 1, 3, none⟩ = some (.slice AA am aca) := e1.c 3 _ rfl
      have a4 : w1.cell? ⟨w.heap.size + 1, 4, none⟩ = some (.slice AB an acb) := e1.c 4 _ rfl
      have af : ∀ o, w1.frozen? ⟨w.heap.size + 1, o, none⟩ = false := e1.f
      go_wp2_with fail
      refine (great_any k me A B m ca n cb _).mono ?_
      rw [h]
      rintro e w2 ⟨rfl, hb⟩
      have e0' := e0.below hb
      have e1' := e1.below hb
      have hBw2 : Below w.heap.size w w2 := below_next hBw1 hb
      clear hb e0 e1
      clear d0 d1 d2 d3 d4 d5 df
      clear a0 a1 a2 a3 a4 af
      have e0 := e0'
      have e1 := e1'
      clear e0' e1'
      have d0 : w2.cell? ⟨w.heap.size, 0, none⟩ = some (.int .i64 pr) := e0.c 0 _ rfl
      have d1 : w2.cell? ⟨w.heap.size, 1, none⟩ = some (.int .i64 sq) := e0.c 1 _ rfl
      have d2 : w2.cell? ⟨w.heap.size, 2, none⟩ = some (.int .u8 k) := e0.c 2 _ rfl
      have d3 : w2.cell? ⟨w.heap.size, 3, none⟩ = some (.int .i64 me) := e0.c 3 _ rfl
      have d4 : w2.cell? ⟨w.heap.size, 4, none⟩ = some (.slice A m ca) := e0.c 4 _ rfl
      have d5 : w2.cell? ⟨w.heap.size, 5, none⟩ = some (.slice B n cb) := e0.c 5 _ rfl
      have df : ∀ o, w2.frozen? ⟨w.heap.size, o, none⟩ = false := e0.f
      have a0 : w2.cell? ⟨w.heap.size + 1, 0, none⟩ = some (.int .i64 s) := e1.c 0 _ rfl
      have a1 : w2.cell? ⟨w.heap.size + 1, 1, none⟩ = some (.int .u8 ak) := e1.c 1 _ rfl
      have a2 : w2.cell? ⟨w.heap.size + 1, 2, none⟩ = some (.int .i64 ame) := e1.c 2 _ rfl
      have a3 : w2.cell? ⟨w.heap.size + 1, 3, none⟩ = some (.slice AA am aca) := e1.c 3 _ rfl
      have a4 : w2.cell? ⟨w.heap.size + 1, 4, none⟩ = some (.slice AB an acb) := e1.c 4 _ rfl
      have af : ∀ o, w2.frozen? ⟨w.heap.size + 1, o, none⟩ = false := e1.f
      go_wp2_with fail
      refine (great_any ak ame AA AB am aca an acb _).mono ?_
      rw [h2]
      rintro e w3 ⟨rfl, hb⟩
      have e0' := e0.below hb
      have e1' := e1.below hb
      have hBw3 : Below w.heap.size w w3 := below_next hBw2 hb
      clear hb e0 e1
      clear d0 d1 d2 d3 d4 d5 df
      clear a0 a1 a2 a3 a4 af
      have e0 := e0'
      have e1 := e1'
      clear e0' e1'
      have d0 : w3.cell? ⟨w.heap.size, 0, none⟩ = some (.int .i64 pr) := e0.c 0 _ rfl
      have d1 : w3.cell? ⟨w.heap.size, 1, none⟩ = some (.int .i64 sq) := e0.c 1 _ rfl
      have d2 : w3.cell? ⟨w.heap.size, 2, none⟩ = some (.int .u8 k) := e0.c 2 _ rfl
      have d3 : w3.cell? ⟨w.heap.size, 3, none⟩ = some (.int .i64 me) := e0.c 3 _ rfl
      have d4 : w3.cell? ⟨w.heap.size, 4, none⟩ = some (.slice A m ca) := e0.c 4 _ rfl
      have d5 : w3.cell? ⟨w.heap.size, 5, none⟩ = some (.slice B n cb) := e0.c 5 _ rfl
      have df : ∀ o, w3.frozen? ⟨w.heap.size, o, none⟩ = false := e0.f
      have a0 : w3.cell? ⟨w.heap.size + 1, 0, none⟩ = some (.int .i64 s) := e1.c 0 _ rfl
      have a1 : w3.cell? ⟨w.heap.size + 1, 1, none⟩ = some (.int .u8 ak) := e1.c 1 _ rfl
      have a2 : w3.cell? ⟨w.heap.size + 1, 2, none⟩ = some (.int .i64 ame) := e1.c 2 _ rfl
      have a3 : w3.cell? ⟨w.heap.size + 1, 3, none⟩ = some (.slice AA am aca) := e1.c 3 _ rfl
      have a4 : w3.cell? ⟨w.heap.size + 1, 4, none⟩ = some (.slice AB an acb) := e1.c 4 _ rfl
      have af : ∀ o, w3.frozen? ⟨w.heap.size + 1, o, none⟩ = false := e1.f
      go_wp2_with fail
      refine (HPK.out _ hBw3).mono ?_
      rintro e w4 ⟨A9, c9, B9, d9, rfl, hb, -⟩
      have e0' := e0.below hb
      have e1' := e1.below hb
      have hBw4 : Below w.heap.size w w4 := below_next hBw3 hb
      clear hb e0 e1
      clear d0 d1 d2 d3 d4 d5 df
      clear a0 a1 a2 a3 a4 af
      have d0 : w4.cell? ⟨w.heap.size, 0, none⟩ = some (.int .i64 pr) := e0'.c 0 _ rfl
      have d1 : w4.cell? ⟨w.heap.size, 1, none⟩ = some (.int .i64 sq) := e0'.c 1 _ rfl
      have d2 : w4.cell? ⟨w.heap.size, 2, none⟩ = some (.int .u8 k) := e0'.c 2 _ rfl
      have d3 : w4.cell? ⟨w.heap.size, 3, none⟩ = some (.int .i64 me) := e0'.c 3 _ rfl
      have d4 : w4.cell? ⟨w.heap.size, 4, none⟩ = some (.slice A m ca) := e0'.c 4 _ rfl
      have d5 : w4.cell? ⟨w.heap.size, 5, none⟩ = some (.slice B n cb) := e0'.c 5 _ rfl
      have df : ∀ o, w4.frozen? ⟨w.heap.size, o, none⟩ = false := e0'.f
      have a0 : w4.cell? ⟨w.heap.size + 1, 0, none⟩ = some (.int .i64 s) := e1'.c 0 _ rfl
      have a1 : w4.cell? ⟨w.heap.size + 1, 1, none⟩ = some (.int .u8 ak) := e1'.c 1 _ rfl
      have a2 : w4.cell? ⟨w.heap.size + 1, 2, none⟩ = some (.int .i64 ame) := e1'.c 2 _ rfl
      have a3 : w4.cell? ⟨w.heap.size + 1, 3, none⟩ = some (.slice AA am aca) := e1'.c 3 _ rfl
      have a4 : w4.cell? ⟨w.heap.size + 1, 4, none⟩ = some (.slice AB an acb) := e1'.c 4 _ rfl
      have af : ∀ o, w4.frozen? ⟨w.heap.size + 1, o, none⟩ = false := e1'.f
      go_wp2_with fail
      obtain ⟨W5, hW5⟩ : ∃ W5, w4.alloc (.cells #[.int .i64 pr, .int .i64 sq, .int .u8 k, .int .i64 me, .slice A9 m c9, .slice B9 n d9] 58) = W5 := ⟨_, rfl⟩
      have n0 : Blk W5 w.heap.size [.int .i64 pr, .int .i64 sq, .int .u8 k, .int .i64 me, .slice A m ca, .slice B n cb] := by rw [← hW5]; exact e0'.alloc _
      have n1 : Blk W5 (w.heap.size + 1) [.int .i64 s, .int .u8 ak, .int .i64 ame, .slice AA am aca, .slice AB an acb] := by rw [← hW5]; exact e1'.alloc _
      have n9 : Blk W5 w4.heap.size [.int .i64 pr, .int .i64 sq, .int .u8 k, .int .i64 me, .slice A9 m c9, .slice B9 n d9] := by rw [← hW5]; exact Blk.new w4 _ _
      have hBW5 : Below w.heap.size w W5 := by rw [← hW5]; exact hBw4.alloc hBw4.size _
      rw [hW5]
      clear hW5 e0' e1'
      clear d0 d1 d2 d3 d4 d5 df
      clear a0 a1 a2 a3 a4 af
      have d0 : W5.cell? ⟨w.heap.size, 0, none⟩ = some (.int .i64 pr) := n0.c 0 _ rfl
      have d1 : W5.cell? ⟨w.heap.size, 1, none⟩ = some (.int .i64 sq) := n0.c 1 _ rfl
      have d2 : W5.cell? ⟨w.heap.size, 2, none⟩ = some (.int .u8 k) := n0.c 2 _ rfl
      have d3 : W5.cell? ⟨w.heap.size, 3, none⟩ = some (.int .i64 me) := n0.c 3 _ rfl
      have d4 : W5.cell? ⟨w.heap.size, 4, none⟩ = some (.slice A m ca) := n0.c 4 _ rfl
      have d5 : W5.cell? ⟨w.heap.size, 5, none⟩ = some (.slice B n cb) := n0.c 5 _ rfl
      have df : ∀ o, W5.frozen? ⟨w.heap.size, o, none⟩ = false := n0.f
      have a0 : W5.cell? ⟨w.heap.size + 1, 0, none⟩ = some (.int .i64 s) := n1.c 0 _ rfl
      have a1 : W5.cell? ⟨w.heap.size + 1, 1, none⟩ = some (.int .u8 ak) := n1.c 1 _ rfl
      have a2 : W5.cell? ⟨w.heap.size + 1, 2, none⟩ = some (.int .i64 ame) := n1.c 2 _ rfl
      have a3 : W5.cell? ⟨w.heap.size + 1, 3, none⟩ = some (.slice AA am aca) := n1.c 3 _ rfl
      have a4 : W5.cell? ⟨w.heap.size + 1, 4, none⟩ = some (.slice AB an acb) := n1.c 4 _ rfl
      have af : ∀ o, W5.frozen? ⟨w.heap.size + 1, o, none⟩ = false := n1.f
      have r0 : W5.cell? ⟨w4.heap.size, 0, none⟩ = some (.int .i64 pr) := n9.c 0 _ rfl
      have r1 : W5.cell? ⟨w4.heap.size, 1, none⟩ = some (.int .i64 sq) := n9.c 1 _ rfl
      have r2 : W5.cell? ⟨w4.heap.size, 2, none⟩ = some (.int .u8 k) := n9.c 2 _ rfl
      have r3 : W5.cell? ⟨w4.heap.size, 3, none⟩ = some (.int .i64 me) := n9.c 3 _ rfl
      have r4 : W5.cell? ⟨w4.heap.size, 4, none⟩ = some (.slice A9 m c9) := n9.c 4 _ rfl
      have r5 : W5.cell? ⟨w4.heap.size, 5, none⟩ = some (.slice B9 n d9) := n9.c 5 _ rfl
      have rf : ∀ o, W5.frozen? ⟨w4.heap.size, o, none⟩ = false := n9.f
      obtain ⟨zb, zo, rfl, zlt, zc⟩ := HI.out q (by omega)
      have zc' : W5.cell? ⟨zb, zo + q, none⟩ = some (.int .i64 X) := by
        rw [← HX.out]
        exact (hBW5.cell (p := ⟨zb, zo + q, none⟩) zlt).trans zc
      clear zc
      refine (HWH.out _).mono ?_
      rintro e w' ⟨rfl, hq⟩
      subst hq
      go_wp2_with fail
      go_quiet (fail)
      go_wp2_with fail
      go_ret
      exact ⟨rfl, below_drewN hBW5 _⟩

  · have e0 : decide (0 ≤ whoseI i zs.length) = false := decide_eq_false hq0
    clear hpB'
    generalize whoseI i zs.length = q at *
    go_enter Try.func9, Try.ntmps9
    go_wp2_with fail
    obtain ⟨W, hW⟩ : ∃ W, (w.alloc (.cells #[.int .i64 pr, .int .i64 sq, .int .u8 k, .int .i64 me, .slice A m ca, .slice B n cb] 58)).alloc (.cells #[.int .i64 s, .int .u8 ak, .int .i64 ame, .slice AA am aca, .slice AB an acb] 60) = W := ⟨_, rfl⟩
    have z0 : W.heap.size = w.heap.size + 2 := by rw [← hW]; simp
    have hB0 : Below w.heap.size w W := by rw [← hW]; go_grown
    have b0 : Blk W w.heap.size [.int .i64 pr, .int .i64 sq, .int .u8 k, .int .i64 me, .slice A m ca, .slice B n cb] := by rw [← hW]; exact (Blk.new w _ _).alloc _
    have b1 : Blk W (w.heap.size + 1) [.int .i64 s, .int .u8 ak, .int .i64 ame, .slice AA am aca, .slice AB an acb] := by
      rw [← hW]
      have := Blk.new (w.alloc (.cells #[.int .i64 pr, .int .i64 sq, .int .u8 k, .int .i64 me, .slice A m ca, .slice B n cb] 58)) #[.int .i64 s, .int .u8 ak, .int .i64 ame, .slice AA am aca, .slice AB an acb] 60
      simpa using this
    rw [hW]
    clear hW
    refine (awake22_any _).mono ?_
    rintro e w1 ⟨rfl, hb1⟩
    have e0 := b0.below hb1
    have e1 := b1.below hb1
    have hBw1 : Below w.heap.size w w1 := below_next hB0 hb1
    clear b0 b1 z0 hb1 hB0
    have d0 : w1.cell? ⟨w.heap.size, 0, none⟩ = some (.int .i64 pr) := e0.c 0 _ rfl
    have d1 : w1.cell? ⟨w.heap.size, 1, none⟩ = some (.int .i64 sq) := e0.c 1 _ rfl
    have d2 : w1.cell? ⟨w.heap.size, 2, none⟩ = some (.int .u8 k) := e0.c 2 _ rfl
    have d3 : w1.cell? ⟨w.heap.size, 3, none⟩ = some (.int .i64 me) := e0.c 3 _ rfl
    have d4 : w1.cell? ⟨w.heap.size, 4, none⟩ = some (.slice A m ca) := e0.c 4 _ rfl
    have d5 : w1.cell? ⟨w.heap.size, 5, none⟩ = some (.slice B n cb) := e0.c 5 _ rfl
    have df : ∀ o, w1.frozen? ⟨w.heap.size, o, none⟩ = false := e0.f
    have a0 : w1.cell? ⟨w.heap.size + 1, 0, none⟩ = some (.int .i64 s) := e1.c 0 _ rfl
    have a1 : w1.cell? ⟨w.heap.size + 1, 1, none⟩ = some (.int .u8 ak) := e1.c 1 _ rfl
    have a2 : w1.cell? ⟨w.heap.size + 1, 2, none⟩ = some (.int .i64 ame) := e1.c 2 _ rfl
    have a3 : w1.cell? ⟨w.heap.size + 1, 3, none⟩ = some (.slice AA am aca) := e1.c 3 _ rfl
    have a4 : w1.cell? ⟨w.heap.size + 1, 4, none⟩ = some (.slice AB an acb) := e1.c 4 _ rfl
    have af : ∀ o, w1.frozen? ⟨w.heap.size + 1, o, none⟩ = false := e1.f
    go_wp2_with fail
    refine (great_any k me A B m ca n cb _).mono ?_
    rw [h]
    rintro e w2 ⟨rfl, hb⟩
    have e0' := e0.below hb
    have e1' := e1.below hb
    have hBw2 : Below w.heap.size w w2 := below_next hBw1 hb
    clear hb e0 e1
    clear d0 d1 d2 d3 d4 d5 df
    clear a0 a1 a2 a3 a4 af
    have e0 := e0'
    have e1 := e1'
    clear e0' e1'
    have d0 : w2.cell? ⟨w.heap.size, 0, none⟩ = some (.int .i64 pr) := e0.c 0 _ rfl
    have d1 : w2.cell? ⟨w.heap.size, 1, none⟩ = some (.int .i64 sq) := e0.c 1 _ rfl
    have d2 : w2.cell? ⟨w.heap.size, 2, none⟩ = some (.int .u8 k) := e0.c 2 _ rfl
    have d3 : w2.cell? ⟨w.heap.size, 3, none⟩ = some (.int .i64 me) := e0.c 3 _ rfl
    have d4 : w2.cell? ⟨w.heap.size, 4, none⟩ = some (.slice A m ca) := e0.c 4 _ rfl
    have d5 : w2.cell? ⟨w.heap.size, 5, none⟩ = some (.slice B n cb) := e0.c 5 _ rfl
    have df : ∀ o, w2.frozen? ⟨w.heap.size, o, none⟩ = false := e0.f
    have a0 : w2.cell? ⟨w.heap.size + 1, 0, none⟩ = some (.int .i64 s) := e1.c 0 _ rfl
    have a1 : w2.cell? ⟨w.heap.size + 1, 1, none⟩ = some (.int .u8 ak) := e1.c 1 _ rfl
    have a2 : w2.cell? ⟨w.heap.size + 1, 2, none⟩ = some (.int .i64 ame) := e1.c 2 _ rfl
    have a3 : w2.cell? ⟨w.heap.size + 1, 3, none⟩ = some (.slice AA am aca) := e1.c 3 _ rfl
    have a4 : w2.cell? ⟨w.heap.size + 1, 4, none⟩ = some (.slice AB an acb) := e1.c 4 _ rfl
    have af : ∀ o, w2.frozen? ⟨w.heap.size + 1, o, none⟩ = false := e1.f
    go_wp2_with fail
    refine (great_any ak ame AA AB am aca an acb _).mono ?_
    rw [h2]
    rintro e w3 ⟨rfl, hb⟩
    have e0' := e0.below hb
    have e1' := e1.below hb
    have hBw3 : Below w.heap.size w w3 := below_next hBw2 hb
    clear hb e0 e1
    clear d0 d1 d2 d3 d4 d5 df
    clear a0 a1 a2 a3 a4 af
    have e0 := e0'
    have e1 := e1'
    clear e0' e1'
    have d0 : w3.cell? ⟨w.heap.size, 0, none⟩ = some (.int .i64 pr) := e0.c 0 _ rfl
    have d1 : w3.cell? ⟨w.heap.size, 1, none⟩ = some (.int .i64 sq) := e0.c 1 _ rfl
    have d2 : w3.cell? ⟨w.heap.size, 2, none⟩ = some (.int .u8 k) := e0.c 2 _ rfl
    have d3 : w3.cell? ⟨w.heap.size, 3, none⟩ = some (.int .i64 me) := e0.c 3 _ rfl
    have d4 : w3.cell? ⟨w.heap.size, 4, none⟩ = some (.slice A m ca) := e0.c 4 _ rfl
    have d5 : w3.cell? ⟨w.heap.size, 5, none⟩ = some (.slice B n cb) := e0.c 5 _ rfl
    have df : ∀ o, w3.frozen? ⟨w.heap.size, o, none⟩ = false := e0.f
    have a0 : w3.cell? ⟨w.heap.size + 1, 0, none⟩ = some (.int .i64 s) := e1.c 0 _ rfl
    have a1 : w3.cell? ⟨w.heap.size + 1, 1, none⟩ = some (.int .u8 ak) := e1.c 1 _ rfl
    have a2 : w3.cell? ⟨w.heap.size + 1, 2, none⟩ = some (.int .i64 ame) := e1.c 2 _ rfl
    have a3 : w3.cell? ⟨w.heap.size + 1, 3, none⟩ = some (.slice AA am aca) := e1.c 3 _ rfl
    have a4 : w3.cell? ⟨w.heap.size + 1, 4, none⟩ = some (.slice AB an acb) := e1.c 4 _ rfl
    have af : ∀ o, w3.frozen? ⟨w.heap.size + 1, o, none⟩ = false := e1.f
    go_wp2_with fail
    refine (HPK.out _ hBw3).mono ?_
    rintro e w4 ⟨A9, c9, B9, d9, rfl, hb, -⟩
    have e0' := e0.below hb
    have e1' := e1.below hb
    have hBw4 : Below w.heap.size w w4 := below_next hBw3 hb
    clear hb e0 e1
    clear d0 d1 d2 d3 d4 d5 df
    clear a0 a1 a2 a3 a4 af
    have d0 : w4.cell? ⟨w.heap.size, 0, none⟩ = some (.int .i64 pr) := e0'.c 0 _ rfl
    have d1 : w4.cell? ⟨w.heap.size, 1, none⟩ = some (.int .i64 sq) := e0'.c 1 _ rfl
    have d2 : w4.cell? ⟨w.heap.size, 2, none⟩ = some (.int .u8 k) := e0'.c 2 _ rfl
    have d3 : w4.cell? ⟨w.heap.size, 3, none⟩ = some (.int .i64 me) := e0'.c 3 _ rfl
    have d4 : w4.cell? ⟨w.heap.size, 4, none⟩ = some (.slice A m ca) := e0'.c 4 _ rfl
    have d5 : w4.cell? ⟨w.heap.size, 5, none⟩ = some (.slice B n cb) := e0'.c 5 _ rfl
    have df : ∀ o, w4.frozen? ⟨w.heap.size, o, none⟩ = false := e0'.f
    have a0 : w4.cell? ⟨w.heap.size + 1, 0, none⟩ = some (.int .i64 s) := e1'.c 0 _ rfl
    have a1 : w4.cell? ⟨w.heap.size + 1, 1, none⟩ = some (.int .u8 ak) := e1'.c 1 _ rfl
    have a2 : w4.cell? ⟨w.heap.size + 1, 2, none⟩ = some (.int .i64 ame) := e1'.c 2 _ rfl
    have a3 : w4.cell? ⟨w.heap.size + 1, 3, none⟩ = some (.slice AA am aca) := e1'.c 3 _ rfl
    have a4 : w4.cell? ⟨w.heap.size + 1, 4, none⟩ = some (.slice AB an acb) := e1'.c 4 _ rfl
    have af : ∀ o, w4.frozen? ⟨w.heap.size + 1, o, none⟩ = false := e1'.f
    go_wp2_with fail
    obtain ⟨W5, hW5⟩ : ∃ W5, w4.alloc (.cells #[.int .i64 pr, .int .i64 sq, .int .u8 k, .int .i64 me, .slice A9 m c9, .slice B9 n d9] 58) = W5 := ⟨_, rfl⟩
    have n0 : Blk W5 w.heap.size [.int .i64 pr, .int .i64 sq, .int .u8 k, .int .i64 me, .slice A m ca, .slice B n cb] := by rw [← hW5]; exact e0'.alloc _
    have n1 : Blk W5 (w.heap.size + 1) [.int .i64 s, .int .u8 ak, .int .i64 ame, .slice AA am aca, .slice AB an acb] := by rw [← hW5]; exact e1'.alloc _
    have n9 : Blk W5 w4.heap.size [.int .i64 pr, .int .i64 sq, .int .u8 k, .int .i64 me, .slice A9 m c9, .slice B9 n d9] := by rw [← hW5]; exact Blk.new w4 _ _
    have hBW5 : Below w.heap.size w W5 := by rw [← hW5]; exact hBw4.alloc hBw4.size _
    rw [hW5]
    clear hW5 e0' e1'
    clear d0 d1 d2 d3 d4 d5 df
    clear a0 a1 a2 a3 a4 af
    have d0 : W5.cell? ⟨w.heap.size, 0, none⟩ = some (.int .i64 pr) := n0.c 0 _ rfl
    have d1 : W5.cell? ⟨w.heap.size, 1, none⟩ = some (.int .i64 sq) := n0.c 1 _ rfl
    have d2 : W5.cell? ⟨w.heap.size, 2, none⟩ = some (.int .u8 k) := n0.c 2 _ rfl
    have d3 : W5.cell? ⟨w.heap.size, 3, none⟩ = some (.int .i64 me) := n0.c 3 _ rfl
    have d4 : W5.cell? ⟨w.heap.size, 4, none⟩ = some (.slice A m ca) := n0.c 4 _ rfl
    have d5 : W5.cell? ⟨w.heap.size, 5, none⟩ = some (.slice B n cb) := n0.c 5 _ rfl
    have df : ∀ o, W5.frozen? ⟨w.heap.size, o, none⟩ = false := n0.f
    have a0 : W5.cell? ⟨w.heap.size + 1, 0, none⟩ = some (.int .i64 s) := n1.c 0 _ rfl
    have a1 : W5.cell? ⟨w.heap.size + 1, 1, none⟩ = some (.int .u8 ak) := n1.c 1 _ rfl
    have a2 : W5.cell? ⟨w.heap.size + 1, 2, none⟩ = some (.int .i64 ame) := n1.c 2 _ rfl
    have a3 : W5.cell? ⟨w.heap.size + 1, 3, none⟩ = some (.slice AA am aca) := n1.c 3 _ rfl
    have a4 : W5.cell? ⟨w.heap.size + 1, 4, none⟩ = some (.slice AB an acb) := n1.c 4 _ rfl
    have af : ∀ o, W5.frozen? ⟨w.heap.size + 1, o, none⟩ = false := n1.f
    have r0 : W5.cell? ⟨w4.heap.size, 0, none⟩ = some (.int .i64 pr) := n9.c 0 _ rfl
    have r1 : W5.cell? ⟨w4.heap.size, 1, none⟩ = some (.int .i64 sq) := n9.c 1 _ rfl
    have r2 : W5.cell? ⟨w4.heap.size, 2, none⟩ = some (.int .u8 k) := n9.c 2 _ rfl
    have r3 : W5.cell? ⟨w4.heap.size, 3, none⟩ = some (.int .i64 me) := n9.c 3 _ rfl
    have r4 : W5.cell? ⟨w4.heap.size, 4, none⟩ = some (.slice A9 m c9) := n9.c 4 _ rfl
    have r5 : W5.cell? ⟨w4.heap.size, 5, none⟩ = some (.slice B9 n d9) := n9.c 5 _ rfl
    have rf : ∀ o, W5.frozen? ⟨w4.heap.size, o, none⟩ = false := n9.f
    skip
    refine (HWH.out _).mono ?_
    rintro e w' ⟨rfl, hq⟩
    subst hq
    go_wp2_with fail
    go_quiet (fail)
    go_wp2_with fail
    go_ret
    exact ⟨rfl, below_drewN hBW5 _⟩


set_option maxRecDepth 100000 in
set_option maxHeartbeats 4000000 in
theorem never_help (i pr sq k me s ak ame : Int) (A B AA AB Z : Option Addr) (m ca n cb am aca an acb cz : Nat) (xs ys axs ays : List Value) (zs : List Int) (w : World)
    (i1 : -9223372036854775808 ≤ i) (i2 : i ≤ 9223372036854775807) (ho : OpIn w.heap.size w A m B n xs ys) (ha : OpIn w.heap.size w AA am AB an axs ays) (hI : IntsAt w.heap.size w Z zs) (hz : zs.length ≤ 80)
    (h : greatB m n = false) (h2 : greatB am an = false) (hpB : pickB i pr s zs = true) :
    Calls Try.prog 9 #[.int .i64 i, .agg #[.int .i64 pr, .int .i64 sq, .int .u8 k, .int .i64 me, .slice A m ca, .slice B n cb], .agg #[.int .i64 s, .int .u8 ak, .int .i64 ame, .slice AA am aca, .slice AB an acb], .slice Z zs.length cz] w fun e w' => e = .returned (.bool true) ∧ Below w.heap.size w w' := by
  have hpB' : helpsB i zs.length pr = true ∧ pendB s (whoseI i zs.length) zs = true := by
    unfold pickB at hpB
    rwa [Bool.and_eq_true] at hpB
  have hpk : ∀ W, Below w.heap.size w W → Calls Try.prog 33 #[.int .i64 i, .agg #[.int .i64 pr, .int .i64 sq, .int .u8 k, .int .i64 me, .slice A m ca, .slice B n cb], .agg #[.int .i64 s, .int .u8 ak, .int .i64 ame, .slice AA am aca, .slice AB an acb], .slice Z zs.length cz] W fun e w' => Picked W (whoseI i zs.length) s ak ame am an axs ays e w' := fun W hW =>
    pick_help i pr sq k me s ak ame A B AA AB Z m ca n cb am aca an acb cz xs ys axs ays zs W i1 i2 ((ho.below hW).le hW.size) ((ha.below hW).le hW.size) (fun j hj => by
        obtain ⟨b, off, h1, h2, h3⟩ := hI j hj
        exact ⟨b, off, h1, Nat.lt_of_lt_of_le h2 hW.size, (hW.cell (p := ⟨b, off + j, none⟩) h2).trans h3⟩) (by omega) hpB
  have hwh : ∀ W, Calls Try.prog 29 #[.int .i64 i, .int .i64 zs.length] W fun e w' => e = .returned (.int .i64 (whoseI i zs.length)) ∧ w' = W := fun W => whose_any i zs.length W i1 i2
  have hpe : ∀ W, Below w.heap.size w W → Calls Try.prog 30 #[.agg #[.int .i64 s, .int .u8 ak, .int .i64 ame, .slice AA am aca, .slice AB an acb], .int .i64 (whoseI i zs.length), .slice Z zs.length cz] W fun e w' =>
      e = .returned (.bool (pendB s (whoseI i zs.length) zs)) ∧ Below W.heap.size W w' := fun W hW => pending_any s ak ame (whoseI i zs.length) AA AB am aca an acb Z cz zs (by omega) W (fun j hj => by
        obtain ⟨b, off, h1, h2, h3⟩ := hI j hj
        exact ⟨b, off, h1, Nat.lt_of_lt_of_le h2 hW.size, (hW.cell (p := ⟨b, off + j, none⟩) h2).trans h3⟩)
  have HPK := Lib.hid hpk
  have HWH := Lib.hid hwh
  have HPE := Lib.hid hpe
  have HI := Lib.hid hI
  have hzl : (zs.length : Int) ≤ 80 := by omega
  have HZ := Lib.hid hz
  clear hpk hwh hpe ho ha hI hz hpB
  obtain ⟨hh, hp⟩ := hpB'
  unfold helpsB at hh
  unfold pendB at hp
  rw [decide_eq_true_iff] at hp
  rw [Bool.and_eq_true, decide_eq_true_iff, Bool.not_eq_true', decide_eq_false_iff_not] at hh
  obtain ⟨hq0, hqp⟩ := hh
  obtain ⟨-, hql, hlt⟩ := hp
  obtain ⟨q, hq⟩ := Int.eq_ofNat_of_zero_le hq0
  have hpt : pendB s q zs = true := by
    unfold pendB
    rw [decide_eq_true_iff]
    rw [hq] at hql hlt
    exact ⟨by omega, hql, hlt⟩
  rw [hq] at HWH HPE HPK hqp hql hlt
  rw [hpt] at HPE
  clear hq hpt hq0
  have q0 : (0 : Int) ≤ (q : Int) := by omega
  have q1 : (q : Int) < (zs.length : Int) := hql
  have q2 : q < zs.length := by omega
  obtain ⟨X, hX⟩ : ∃ X, zs[q]?.getD 0 = X := ⟨_, rfl⟩
  have HX := Lib.hid hX
  have e1 : ((q : Int) == pr) = false := by rw [beq_eq_false_iff_ne]; exact hqp
  have e2 : ((q : Int) != pr) = true := by simp [hqp]
  have e3 : X < s := by rw [← hX]; simpa using hlt
  have e4 : decide (X < s) = true := decide_eq_true e3
  clear hqp hX hlt hql
  go_enter Try.func9, Try.ntmps9
  go_wp2_with fail
  obtain ⟨W, hW⟩ : ∃ W, (w.alloc (.cells #[.int .i64 pr, .int .i64 sq, .int .u8 k, .int .i64 me, .slice A m ca, .slice B n cb] 58)).alloc (.cells #[.int .i64 s, .int .u8 ak, .int .i64 ame, .slice AA am aca, .slice AB an acb] 60) = W := ⟨_, rfl⟩
  have z0 : W.heap.size = w.heap.size + 2 := by rw [← hW]; simp
  have hB0 : Below w.heap.size w W := by rw [← hW]; go_grown
  have b0 : Blk W w.heap.size [.int .i64 pr, .int .i64 sq, .int .u8 k, .int .i64 me, .slice A m ca, .slice B n cb] := by rw [← hW]; exact (Blk.new w _ _).alloc _
  have b1 : Blk W (w.heap.size + 1) [.int .i64 s, .int .u8 ak, .int .i64 ame, .slice AA am aca, .slice AB an acb] := by
    rw [← hW]
    have := Blk.new (w.alloc (.cells #[.int .i64 pr, .int .i64 sq, .int .u8 k, .int .i64 me, .slice A m ca, .slice B n cb] 58)) #[.int .i64 s, .int .u8 ak, .int .i64 ame, .slice AA am aca, .slice AB an acb] 60
    simpa using this
  rw [hW]
  clear hW
  refine (awake22_any _).mono ?_
  rintro e w1 ⟨rfl, hb1⟩
  have e0 := b0.below hb1
  have e1 := b1.below hb1
  have hBw1 : Below w.heap.size w w1 := below_next hB0 hb1
  clear b0 b1 z0 hb1 hB0
  have d0 : w1.cell? ⟨w.heap.size, 0, none⟩ = some (.int .i64 pr) := e0.c 0 _ rfl
  have d1 : w1.cell? ⟨w.heap.size, 1, none⟩ = some (.int .i64 sq) := e0.c 1 _ rfl
  have d2 : w1.cell? ⟨w.heap.size, 2, none⟩ = some (.int .u8 k) := e0.c 2 _ rfl
  have d3 : w1.cell? ⟨w.heap.size, 3, none⟩ = some (.int .i64 me) := e0.c 3 _ rfl
  have d4 : w1.cell? ⟨w.heap.size, 4, none⟩ = some (.slice A m ca) := e0.c 4 _ rfl
  have d5 : w1.cell? ⟨w.heap.size, 5, none⟩ = some (.slice B n cb) := e0.c 5 _ rfl
  have df : ∀ o, w1.frozen? ⟨w.heap.size, o, none⟩ = false := e0.f
  have a0 : w1.cell? ⟨w.heap.size + 1, 0, none⟩ = some (.int .i64 s) := e1.c 0 _ rfl
  have a1 : w1.cell? ⟨w.heap.size + 1, 1, none⟩ = some (.int .u8 ak) := e1.c 1 _ rfl
  have a2 : w1.cell? ⟨w.heap.size + 1, 2, none⟩ = some (.int .i64 ame) := e1.c 2 _ rfl
  have a3 : w1.cell? ⟨w.heap.size + 1, 3, none⟩ = some (.slice AA am aca) := e1.c 3 _ rfl
  have a4 : w1.cell? ⟨w.heap.size + 1, 4, none⟩ = some (.slice AB an acb) := e1.c 4 _ rfl
  have af : ∀ o, w1.frozen? ⟨w.heap.size + 1, o, none⟩ = false := e1.f
  go_wp2_with fail
  refine (great_any k me A B m ca n cb _).mono ?_
  rw [h]
  rintro e w2 ⟨rfl, hb⟩
  have e0' := e0.below hb
  have e1' := e1.below hb
  have hBw2 : Below w.heap.size w w2 := below_next hBw1 hb
  clear hb e0 e1
  clear d0 d1 d2 d3 d4 d5 df
  clear a0 a1 a2 a3 a4 af
  have e0 := e0'
  have e1 := e1'
  clear e0' e1'
  have d0 : w2.cell? ⟨w.heap.size, 0, none⟩ = some (.int .i64 pr) := e0.c 0 _ rfl
  have d1 : w2.cell? ⟨w.heap.size, 1, none⟩ = some (.int .i64 sq) := e0.c 1 _ rfl
  have d2 : w2.cell? ⟨w.heap.size, 2, none⟩ = some (.int .u8 k) := e0.c 2 _ rfl
  have d3 : w2.cell? ⟨w.heap.size, 3, none⟩ = some (.int .i64 me) := e0.c 3 _ rfl
  have d4 : w2.cell? ⟨w.heap.size, 4, none⟩ = some (.slice A m ca) := e0.c 4 _ rfl
  have d5 : w2.cell? ⟨w.heap.size, 5, none⟩ = some (.slice B n cb) := e0.c 5 _ rfl
  have df : ∀ o, w2.frozen? ⟨w.heap.size, o, none⟩ = false := e0.f
  have a0 : w2.cell? ⟨w.heap.size + 1, 0, none⟩ = some (.int .i64 s) := e1.c 0 _ rfl
  have a1 : w2.cell? ⟨w.heap.size + 1, 1, none⟩ = some (.int .u8 ak) := e1.c 1 _ rfl
  have a2 : w2.cell? ⟨w.heap.size + 1, 2, none⟩ = some (.int .i64 ame) := e1.c 2 _ rfl
  have a3 : w2.cell? ⟨w.heap.size + 1, 3, none⟩ = some (.slice AA am aca) := e1.c 3 _ rfl
  have a4 : w2.cell? ⟨w.heap.size + 1, 4, none⟩ = some (.slice AB an acb) := e1.c 4 _ rfl
  have af : ∀ o, w2.frozen? ⟨w.heap.size + 1, o, none⟩ = false := e1.f
  go_wp2_with fail
  refine (great_any ak ame AA AB am aca an acb _).mono ?_
  rw [h2]
  rintro e w3 ⟨rfl, hb⟩
  have e0' := e0.below hb
  have e1' := e1.below hb
  have hBw3 : Below w.heap.size w w3 := below_next hBw2 hb
  clear hb e0 e1
  clear d0 d1 d2 d3 d4 d5 df
  clear a0 a1 a2 a3 a4 af
  have e0 := e0'
  have e1 := e1'
  clear e0' e1'
  have d0 : w3.cell? ⟨w.heap.size, 0, none⟩ = some (.int .i64 pr) := e0.c 0 _ rfl
  have d1 : w3.cell? ⟨w.heap.size, 1, none⟩ = some (.int .i64 sq) := e0.c 1 _ rfl
  have d2 : w3.cell? ⟨w.heap.size, 2, none⟩ = some (.int .u8 k) := e0.c 2 _ rfl
  have d3 : w3.cell? ⟨w.heap.size, 3, none⟩ = some (.int .i64 me) := e0.c 3 _ rfl
  have d4 : w3.cell? ⟨w.heap.size, 4, none⟩ = some (.slice A m ca) := e0.c 4 _ rfl
  have d5 : w3.cell? ⟨w.heap.size, 5, none⟩ = some (.slice B n cb) := e0.c 5 _ rfl
  have df : ∀ o, w3.frozen? ⟨w.heap.size, o, none⟩ = false := e0.f
  have a0 : w3.cell? ⟨w.heap.size + 1, 0, none⟩ = some (.int .i64 s) := e1.c 0 _ rfl
  have a1 : w3.cell? ⟨w.heap.size + 1, 1, none⟩ = some (.int .u8 ak) := e1.c 1 _ rfl
  have a2 : w3.cell? ⟨w.heap.size + 1, 2, none⟩ = some (.int .i64 ame) := e1.c 2 _ rfl
  have a3 : w3.cell? ⟨w.heap.size + 1, 3, none⟩ = some (.slice AA am aca) := e1.c 3 _ rfl
  have a4 : w3.cell? ⟨w.heap.size + 1, 4, none⟩ = some (.slice AB an acb) := e1.c 4 _ rfl
  have af : ∀ o, w3.frozen? ⟨w.heap.size + 1, o, none⟩ = false := e1.f
  go_wp2_with fail
  refine (HPK.out _ hBw3).mono ?_
  rintro e w4 ⟨A9, c9, B9, d9, rfl, hb, -⟩
  have e0' := e0.below hb
  have e1' := e1.below hb
  have hBw4 : Below w.heap.size w w4 := below_next hBw3 hb
  clear hb e0 e1
  clear d0 d1 d2 d3 d4 d5 df
  clear a0 a1 a2 a3 a4 af
  have d0 : w4.cell? ⟨w.heap.size, 0, none⟩ = some (.int .i64 pr) := e0'.c 0 _ rfl
  have d1 : w4.cell? ⟨w.heap.size, 1, none⟩ = some (.int .i64 sq) := e0'.c 1 _ rfl
  have d2 : w4.cell? ⟨w.heap.size, 2, none⟩ = some (.int .u8 k) := e0'.c 2 _ rfl
  have d3 : w4.cell? ⟨w.heap.size, 3, none⟩ = some (.int .i64 me) := e0'.c 3 _ rfl
  have d4 : w4.cell? ⟨w.heap.size, 4, none⟩ = some (.slice A m ca) := e0'.c 4 _ rfl
  have d5 : w4.cell? ⟨w.heap.size, 5, none⟩ = some (.slice B n cb) := e0'.c 5 _ rfl
  have df : ∀ o, w4.frozen? ⟨w.heap.size, o, none⟩ = false := e0'.f
  have a0 : w4.cell? ⟨w.heap.size + 1, 0, none⟩ = some (.int .i64 s) := e1'.c 0 _ rfl
  have a1 : w4.cell? ⟨w.heap.size + 1, 1, none⟩ = some (.int .u8 ak) := e1'.c 1 _ rfl
  have a2 : w4.cell? ⟨w.heap.size + 1, 2, none⟩ = some (.int .i64 ame) := e1'.c 2 _ rfl
  have a3 : w4.cell? ⟨w.heap.size + 1, 3, none⟩ = some (.slice AA am aca) := e1'.c 3 _ rfl
  have a4 : w4.cell? ⟨w.heap.size + 1, 4, none⟩ = some (.slice AB an acb) := e1'.c 4 _ rfl
  have af : ∀ o, w4.frozen? ⟨w.heap.size + 1, o, none⟩ = false := e1'.f
  go_wp2_with fail
  obtain ⟨W5, hW5⟩ : ∃ W5, w4.alloc (.cells #[.int .i64 q, .int .i64 s, .int .u8 ak, .int .i64 ame, .slice A9 am c9, .slice B9 an d9] 58) = W5 := ⟨_, rfl⟩
  have n0 : Blk W5 w.heap.size [.int .i64 pr, .int .i64 sq, .int .u8 k, .int .i64 me, .slice A m ca, .slice B n cb] := by rw [← hW5]; exact e0'.alloc _
  have n1 : Blk W5 (w.heap.size + 1) [.int .i64 s, .int .u8 ak, .int .i64 ame, .slice AA am aca, .slice AB an acb] := by rw [← hW5]; exact e1'.alloc _
  have n9 : Blk W5 w4.heap.size [.int .i64 q, .int .i64 s, .int .u8 ak, .int .i64 ame, .slice A9 am c9, .slice B9 an d9] := by rw [← hW5]; exact Blk.new w4 _ _
  have hBW5 : Below w.heap.size w W5 := by rw [← hW5]; exact hBw4.alloc hBw4.size _
  rw [hW5]
  clear hW5 e0' e1'
  clear d0 d1 d2 d3 d4 d5 df
  clear a0 a1 a2 a3 a4 af
  have d0 : W5.cell? ⟨w.heap.size, 0, none⟩ = some (.int .i64 pr) := n0.c 0 _ rfl
  have d1 : W5.cell? ⟨w.heap.size, 1, none⟩ = some (.int .i64 sq) := n0.c 1 _ rfl
  have d2 : W5.cell? ⟨w.heap.size, 2, none⟩ = some (.int .u8 k) := n0.c 2 _ rfl
  have d3 : W5.cell? ⟨w.heap.size, 3, none⟩ = some (.int .i64 me) := n0.c 3 _ rfl
  have d4 : W5.cell? ⟨w.heap.size, 4, none⟩ = some (.slice A m ca) := n0.c 4 _ rfl
  have d5 : W5.cell? ⟨w.heap.size, 5, none⟩ = some (.slice B n cb) := n0.c 5 _ rfl
  have df : ∀ o, W5.frozen? ⟨w.heap.size, o, none⟩ = false := n0.f
  have a0 : W5.cell? ⟨w.heap.size + 1, 0, none⟩ = some (.int .i64 s) := n1.c 0 _ rfl
  have a1 : W5.cell? ⟨w.heap.size + 1, 1, none⟩ = some (.int .u8 ak) := n1.c 1 _ rfl
  have a2 : W5.cell? ⟨w.heap.size + 1, 2, none⟩ = some (.int .i64 ame) := n1.c 2 _ rfl
  have a3 : W5.cell? ⟨w.heap.size + 1, 3, none⟩ = some (.slice AA am aca) := n1.c 3 _ rfl
  have a4 : W5.cell? ⟨w.heap.size + 1, 4, none⟩ = some (.slice AB an acb) := n1.c 4 _ rfl
  have af : ∀ o, W5.frozen? ⟨w.heap.size + 1, o, none⟩ = false := n1.f
  have r0 : W5.cell? ⟨w4.heap.size, 0, none⟩ = some (.int .i64 q) := n9.c 0 _ rfl
  have r1 : W5.cell? ⟨w4.heap.size, 1, none⟩ = some (.int .i64 s) := n9.c 1 _ rfl
  have r2 : W5.cell? ⟨w4.heap.size, 2, none⟩ = some (.int .u8 ak) := n9.c 2 _ rfl
  have r3 : W5.cell? ⟨w4.heap.size, 3, none⟩ = some (.int .i64 ame) := n9.c 3 _ rfl
  have r4 : W5.cell? ⟨w4.heap.size, 4, none⟩ = some (.slice A9 am c9) := n9.c 4 _ rfl
  have r5 : W5.cell? ⟨w4.heap.size, 5, none⟩ = some (.slice B9 an d9) := n9.c 5 _ rfl
  have rf : ∀ o, W5.frozen? ⟨w4.heap.size, o, none⟩ = false := n9.f
  obtain ⟨zb, zo, rfl, zlt, zc⟩ := HI.out q (by omega)
  have zc' : W5.cell? ⟨zb, zo + q, none⟩ = some (.int .i64 X) := by
    rw [← HX.out]
    exact (hBW5.cell (p := ⟨zb, zo + q, none⟩) zlt).trans zc
  clear zc
  refine (HWH.out _).mono ?_
  rintro e w' ⟨rfl, hq⟩
  subst hq
  go_wp2_with fail
  go_quiet (fail)
  go_wp2_with fail
  refine (HPE.out _ (below_drewN hBW5 _)).mono ?_
  rintro e w6 ⟨rfl, hb6⟩
  go_wp2_with fail
  go_ret
  exact ⟨rfl, below_next (below_drewN hBW5 _) hb6⟩


end Go.Proofs.Ytkjmnmcekhnkmab
