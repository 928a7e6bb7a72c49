/- Announcements (package ann): what is put forward (ann.Pick): the own entry, or the announced one of the process that is helped; slices of its own. -/
import Derived.Test.YtkjmnmcekhnkmabAnnD
import Derived.Test.YtkjmnmcekhnkmabBlk
namespace Go.Proofs.Ytkjmnmcekhnkmab
open Go.RowKit Go.Shelf
set_option linter.unusedSimpArgs false
set_option linter.unusedVariables false

/-- Is the process of the index helped? -/
def pickB (i pr s : Int) (zs : List Int) : Bool := helpsB i zs.length pr && pendB s (whoseI i zs.length) zs

/-- What Pick comes to: an entry with slices of its own. -/
def Picked (w : World) (pr sq k me : Int) (m n : Nat) (xs ys : List Value) (e : Ending) (w' : World) : Prop :=
  ∃ A1 c1 B1 c2, e = .returned (.agg #[.int .i64 pr, .int .i64 sq, .int .u8 k, .int .i64 me, .slice A1 m c1, .slice B1 n c2]) ∧ Below w.heap.size w w' ∧ OpOwn w.heap.size w' A1 B1 xs ys

set_option maxRecDepth 100000 in
set_option maxHeartbeats 4000000 in
theorem pick_own (i pr sq k me s ak ame : Int) (A B AA AB Z : Option Addr) (m ca n cb am aca an acb cz : Nat) (xs ys axs ays : List Value) (zs : List Int) (w : World)
    (i1 : -9223372036854775808 ≤ i) (i2 : i ≤ 9223372036854775807) (ho : OpIn w.heap.size w A m B n xs ys) (ha : OpIn w.heap.size w AA am AB an axs ays) (hI : IntsAt w.heap.size w Z zs) (hz : zs.length ≤ 1000) (hp : pickB i pr s zs = false) :
    Calls Try.prog 33 #[.int .i64 i, .agg #[.int .i64 pr, .int .i64 sq, .int .u8 k, .int .i64 me, .slice A m ca, .slice B n cb], .agg #[.int .i64 s, .int .u8 ak, .int .i64 ame, .slice AA am aca, .slice AB an acb], .slice Z zs.length cz] w fun e w' => Picked w pr sq k me m n xs ys e w' := by
  have hcp : ∀ W, Below w.heap.size w W → Calls Try.prog 47 #[.agg #[.int .u8 k, .int .i64 me, .slice A m ca, .slice B n cb]] W fun e w' => Copied W k me m n xs ys e w' := fun W hW =>
    copy_any k me A m ca B n cb xs ys W ((ho.below hW).le hW.size)
  have hca : ∀ W, Below w.heap.size w W → Calls Try.prog 47 #[.agg #[.int .u8 ak, .int .i64 ame, .slice AA am aca, .slice AB an acb]] W fun e w' => Copied W ak ame am an axs ays e w' := fun W hW =>
    copy_any ak ame AA am aca AB an acb axs ays W ((ha.below hW).le hW.size)
  have hhp : ∀ W, Calls Try.prog 28 #[.int .i64 i, .int .i64 zs.length, .int .i64 pr] W fun e w' => e = .returned (.tuple #[.int .i64 (whoseI i zs.length), .bool (helpsB i zs.length pr)]) ∧ w' = W := fun W => helps_any i zs.length pr W i1 i2
  have hpe : ∀ W, Below w.heap.size w W → Calls Try.prog 30 #[.agg #[.int .i64 s, .int .u8 ak, .int .i64 ame, .slice AA am aca, .slice AB an acb], .int .i64 (whoseI i zs.length), .slice Z zs.length cz] W fun e w' =>
      e = .returned (.bool (pendB s (whoseI i zs.length) zs)) ∧ Below W.heap.size W w' := fun W hW => pending_any s ak ame (whoseI i zs.length) AA AB am aca an acb Z cz zs hz W (fun j hj => by
        obtain ⟨b, off, h1, h2, h3⟩ := hI j hj
        exact ⟨b, off, h1, Nat.lt_of_lt_of_le h2 hW.size, (hW.cell (p := ⟨b, off + j, none⟩) h2).trans h3⟩)
  have HC := Lib.hid hcp
  have HA := Lib.hid hca
  have HH := Lib.hid hhp
  have HP := Lib.hid hpe
  have hzl : (zs.length : Int) ≤ 1000 := by omega
  have HZ := Lib.hid hz
  clear hcp hca hhp hpe ho ha hI hz
  unfold pickB at hp
  go_enter Try.func33, Try.ntmps33
  go_wp2_with fail
  obtain ⟨W, hW⟩ : ∃ W, ((w.alloc (.cells #[.int .i64 pr, .int .i64 sq, .int .u8 k, .int .i64 me, .slice A m ca, .slice B n cb] 58)).alloc (.cells #[.int .i64 s, .int .u8 ak, .int .i64 ame, .slice AA am aca, .slice AB an acb] 60)).alloc (.cells #[.int .i64 0, .int .i64 0, .int .u8 0, .int .i64 0, .slice none 0 0, .slice none 0 0] 58) = W := ⟨_, rfl⟩
  have z0 : W.heap.size = w.heap.size + 3 := by rw [← hW]; simp
  have hB0 : Below w.heap.size w W := by rw [← hW]; go_grown
  have b0 : Blk W w.heap.size [.int .i64 pr, .int .i64 sq, .int .u8 k, .int .i64 me, .slice A m ca, .slice B n cb] := by rw [← hW]; exact ((Blk.new w _ _).alloc _).alloc _
  have b1 : Blk W (w.heap.size + 1) [.int .i64 s, .int .u8 ak, .int .i64 ame, .slice AA am aca, .slice AB an acb] := by
    rw [← hW]
    have := (Blk.new (w.alloc (.cells #[.int .i64 pr, .int .i64 sq, .int .u8 k, .int .i64 me, .slice A m ca, .slice B n cb] 58)) #[.int .i64 s, .int .u8 ak, .int .i64 ame, .slice AA am aca, .slice AB an acb] 60).alloc (.cells #[.int .i64 0, .int .i64 0, .int .u8 0, .int .i64 0, .slice none 0 0, .slice none 0 0] 58)
    simpa using this
  have b2 : Blk W (w.heap.size + 1 + 1) [.int .i64 0, .int .i64 0, .int .u8 0, .int .i64 0, .slice none 0 0, .slice none 0 0] := by
    rw [← hW]
    have := Blk.new ((w.alloc (.cells #[.int .i64 pr, .int .i64 sq, .int .u8 k, .int .i64 me, .slice A m ca, .slice B n cb] 58)).alloc (.cells #[.int .i64 s, .int .u8 ak, .int .i64 ame, .slice AA am aca, .slice AB an acb] 60)) #[.int .i64 0, .int .i64 0, .int .u8 0, .int .i64 0, .slice none 0 0, .slice none 0 0] 58
    simpa using this
  rw [hW]
  have Z0 := Lib.hid z0
  clear hW z0
  have d0 : W.cell? ⟨w.heap.size, 0, none⟩ = some (.int .i64 pr) := b0.c 0 _ rfl
  have d1 : W.cell? ⟨w.heap.size, 1, none⟩ = some (.int .i64 sq) := b0.c 1 _ rfl
  have d2 : W.cell? ⟨w.heap.size, 2, none⟩ = some (.int .u8 k) := b0.c 2 _ rfl
  have d3 : W.cell? ⟨w.heap.size, 3, none⟩ = some (.int .i64 me) := b0.c 3 _ rfl
  have d4 : W.cell? ⟨w.heap.size, 4, none⟩ = some (.slice A m ca) := b0.c 4 _ rfl
  have d5 : W.cell? ⟨w.heap.size, 5, none⟩ = some (.slice B n cb) := b0.c 5 _ rfl
  have df : ∀ o, W.frozen? ⟨w.heap.size, o, none⟩ = false := b0.f
  go_wp2_with fail
  refine (HC.out _ hB0).mono ?_
  rintro e w1 ⟨A1, c1, B1, c2, rfl, hb1, hO1⟩
  have e0 := b0.below hb1
  have e1 := b1.below hb1
  have e2 := b2.below hb1
  have hB1 : Below w.heap.size w w1 := below_next hB0 hb1
  have O1 : Hid (OpOwn (w.heap.size + 3) w1 A1 B1 xs ys) := Lib.hid (hO1.le (by have := Z0.out; omega))
  clear d0 d1 d2 d3 d4 d5 df b0 b1 b2 hO1
  have d0 : w1.cell? ⟨w.heap.size, 0, none⟩ = some (.int .i64 pr) := e0.c 0 _ rfl
  have d1 : w1.cell? ⟨w.heap.size, 1, none⟩ = some (.int .i64 sq) := e0.c 1 _ rfl
  have d2 : w1.cell? ⟨w.heap.size, 2, none⟩ = some (.int .u8 k) := e0.c 2 _ rfl
  have d3 : w1.cell? ⟨w.heap.size, 3, none⟩ = some (.int .i64 me) := e0.c 3 _ rfl
  have d4 : w1.cell? ⟨w.heap.size, 4, none⟩ = some (.slice A m ca) := e0.c 4 _ rfl
  have d5 : w1.cell? ⟨w.heap.size, 5, none⟩ = some (.slice B n cb) := e0.c 5 _ rfl
  have df : ∀ o, w1.frozen? ⟨w.heap.size, o, none⟩ = false := e0.f
  have s0 := (((e0.set (j := 2) rfl (.int .u8 k)).set (j := 3) rfl (.int .i64 me)).set (j := 4) rfl (.slice A1 m c1)).set (j := 5) rfl (.slice B1 n c2)
  have s1 := (((e1.other (b' := w.heap.size) (by omega) 2 (.int .u8 k)).other (b' := w.heap.size) (by omega) 3 (.int .i64 me)).other (b' := w.heap.size) (by omega) 4 (.slice A1 m c1)).other (b' := w.heap.size) (by omega) 5 (.slice B1 n c2)
  have s2 := (((e2.other (b' := w.heap.size) (by omega) 2 (.int .u8 k)).other (b' := w.heap.size) (by omega) 3 (.int .i64 me)).other (b' := w.heap.size) (by omega) 4 (.slice A1 m c1)).other (b' := w.heap.size) (by omega) 5 (.slice B1 n c2)
  have hO2 := (((O1.out.set w.heap.size 2 (.int .u8 k) (by omega)).set w.heap.size 3 (.int .i64 me) (by omega)).set w.heap.size 4 (.slice A1 m c1) (by omega)).set w.heap.size 5 (.slice B1 n c2) (by omega)
  have hB2 : Below w.heap.size w ((((w1.setCell ⟨w.heap.size, 2, none⟩ (.int .u8 k)).setCell ⟨w.heap.size, 3, none⟩ (.int .i64 me)).setCell ⟨w.heap.size, 4, none⟩ (.slice A1 m c1)).setCell ⟨w.heap.size, 5, none⟩ (.slice B1 n c2)) := by
    iterate 4 refine Below.setCell ?_ (by simp <;> omega) _
    exact hB1
  have O2 := Lib.hid hO2
  have S0 : Hid (Blk _ _ [.int .i64 pr, .int .i64 sq, .int .u8 k, .int .i64 me, .slice A1 m c1, .slice B1 n c2]) := Lib.hid s0
  have S1 := Lib.hid s1
  have S2 := Lib.hid s2
  clear hO2 O1 e0 e1 e2 s0 s1 s2
  go_wp2_with fail
  generalize (((w1.setCell ⟨w.heap.size, 2, none⟩ (.int .u8 k)).setCell ⟨w.heap.size, 3, none⟩ (.int .i64 me)).setCell ⟨w.heap.size, 4, none⟩ (.slice A1 m c1)).setCell ⟨w.heap.size, 5, none⟩ (.slice B1 n c2) = w2 at *
  clear d0 d1 d2 d3 d4 d5 df
  generalize whoseI i zs.length = q at *
  cases hh : helpsB i zs.length pr
  · rw [hh] at HH
    have d0 : w2.cell? ⟨w.heap.size, 0, none⟩ = some (.int .i64 pr) := S0.out.c 0 _ rfl
    have d1 : w2.cell? ⟨w.heap.size, 1, none⟩ = some (.int .i64 sq) := S0.out.c 1 _ rfl
    have d2 : w2.cell? ⟨w.heap.size, 2, none⟩ = some (.int .u8 k) := S0.out.c 2 _ rfl
    have d3 : w2.cell? ⟨w.heap.size, 3, none⟩ = some (.int .i64 me) := S0.out.c 3 _ rfl
    have d4 : w2.cell? ⟨w.heap.size, 4, none⟩ = some (.slice A1 m c1) := S0.out.c 4 _ rfl
    have d5 : w2.cell? ⟨w.heap.size, 5, none⟩ = some (.slice B1 n c2) := S0.out.c 5 _ rfl
    have df : ∀ o, w2.frozen? ⟨w.heap.size, o, none⟩ = false := S0.out.f
    have r0 : w2.cell? ⟨w.heap.size + 1 + 1, 0, none⟩ = some (.int .i64 0) := S2.out.c 0 _ rfl
    have r1 : w2.cell? ⟨w.heap.size + 1 + 1, 1, none⟩ = some (.int .i64 0) := S2.out.c 1 _ rfl
    have r2 : w2.cell? ⟨w.heap.size + 1 + 1, 2, none⟩ = some (.int .u8 0) := S2.out.c 2 _ rfl
    have r3 : w2.cell? ⟨w.heap.size + 1 + 1, 3, none⟩ = some (.int .i64 0) := S2.out.c 3 _ rfl
    have r4 : w2.cell? ⟨w.heap.size + 1 + 1, 4, none⟩ = some (.slice none 0 0) := S2.out.c 4 _ rfl
    have r5 : w2.cell? ⟨w.heap.size + 1 + 1, 5, none⟩ = some (.slice none 0 0) := S2.out.c 5 _ rfl
    have rf : ∀ o, w2.frozen? ⟨w.heap.size + 1 + 1, o, none⟩ = false := S2.out.f
    go_wp2_with (first | (go_at_call 28; refine (HH.out _).mono ?_; rintro e w' ⟨rfl, hq⟩; subst hq) | fail)
    refine bodyPost_ret (v := .agg #[.int .i64 pr, .int .i64 sq, .int .u8 k, .int .i64 me, .slice A1 m c1, .slice B1 n c2]) (by simp [results, Try.results33, go_sem, *]) rfl ⟨A1, c1, B1, c2, rfl, ?_, ?_⟩
    · iterate 6 refine Below.setCell ?_ (by simp <;> omega) _
      exact hB2
    · refine OpOwn.le (B0 := w.heap.size + 3) (by omega) ?_
      iterate 6 refine OpOwn.set ?_ _ _ _ (by omega)
      exact O2.out
  · rw [hh] at HH hp
    rw [Bool.true_and] at hp
    rw [hp] at HP
    clear hp
    have d0 : w2.cell? ⟨w.heap.size, 0, none⟩ = some (.int .i64 pr) := S0.out.c 0 _ rfl
    have d1 : w2.cell? ⟨w.heap.size, 1, none⟩ = some (.int .i64 sq) := S0.out.c 1 _ rfl
    have d2 : w2.cell? ⟨w.heap.size, 2, none⟩ = some (.int .u8 k) := S0.out.c 2 _ rfl
    have d3 : w2.cell? ⟨w.heap.size, 3, none⟩ = some (.int .i64 me) := S0.out.c 3 _ rfl
    have d4 : w2.cell? ⟨w.heap.size, 4, none⟩ = some (.slice A1 m c1) := S0.out.c 4 _ rfl
    have d5 : w2.cell? ⟨w.heap.size, 5, none⟩ = some (.slice B1 n c2) := S0.out.c 5 _ rfl
    have df : ∀ o, w2.frozen? ⟨w.heap.size, o, none⟩ = false := S0.out.f
    have a0 : w2.cell? ⟨w.heap.size + 1, 0, none⟩ = some (.int .i64 s) := S1.out.c 0 _ rfl
    have a1 : w2.cell? ⟨w.heap.size + 1, 1, none⟩ = some (.int .u8 ak) := S1.out.c 1 _ rfl
    have a2 : w2.cell? ⟨w.heap.size + 1, 2, none⟩ = some (.int .i64 ame) := S1.out.c 2 _ rfl
    have a3 : w2.cell? ⟨w.heap.size + 1, 3, none⟩ = some (.slice AA am aca) := S1.out.c 3 _ rfl
    have a4 : w2.cell? ⟨w.heap.size + 1, 4, none⟩ = some (.slice AB an acb) := S1.out.c 4 _ rfl
    have af : ∀ o, w2.frozen? ⟨w.heap.size + 1, o, none⟩ = false := S1.out.f
    go_wp2_with (first | (go_at_call 28; refine (HH.out _).mono ?_; rintro e w' ⟨rfl, hq⟩; subst hq) | fail)
    refine (HP.out _ hB2).mono ?_
    rintro e w3 ⟨rfl, hb3⟩
    have t0 := S0.out.below hb3
    have t2 := S2.out.below hb3
    have hB3 : Below w.heap.size w w3 := below_next hB2 hb3
    have O3 := Lib.hid (O2.out.below hb3)
    clear d0 d1 d2 d3 d4 d5 df a0 a1 a2 a3 a4 af
    have d0 : w3.cell? ⟨w.heap.size, 0, none⟩ = some (.int .i64 pr) := t0.c 0 _ rfl
    have d1 : w3.cell? ⟨w.heap.size, 1, none⟩ = some (.int .i64 sq) := t0.c 1 _ rfl
    have d2 : w3.cell? ⟨w.heap.size, 2, none⟩ = some (.int .u8 k) := t0.c 2 _ rfl
    have d3 : w3.cell? ⟨w.heap.size, 3, none⟩ = some (.int .i64 me) := t0.c 3 _ rfl
    have d4 : w3.cell? ⟨w.heap.size, 4, none⟩ = some (.slice A1 m c1) := t0.c 4 _ rfl
    have d5 : w3.cell? ⟨w.heap.size, 5, none⟩ = some (.slice B1 n c2) := t0.c 5 _ rfl
    have df : ∀ o, w3.frozen? ⟨w.heap.size, o, none⟩ = false := t0.f
    have r0 : w3.cell? ⟨w.heap.size + 1 + 1, 0, none⟩ = some (.int .i64 0) := t2.c 0 _ rfl
    have r1 : w3.cell? ⟨w.heap.size + 1 + 1, 1, none⟩ = some (.int .i64 0) := t2.c 1 _ rfl
    have r2 : w3.cell? ⟨w.heap.size + 1 + 1, 2, none⟩ = some (.int .u8 0) := t2.c 2 _ rfl
    have r3 : w3.cell? ⟨w.heap.size + 1 + 1, 3, none⟩ = some (.int .i64 0) := t2.c 3 _ rfl
    have r4 : w3.cell? ⟨w.heap.size + 1 + 1, 4, none⟩ = some (.slice none 0 0) := t2.c 4 _ rfl
    have r5 : w3.cell? ⟨w.heap.size + 1 + 1, 5, none⟩ = some (.slice none 0 0) := t2.c 5 _ rfl
    have rf : ∀ o, w3.frozen? ⟨w.heap.size + 1 + 1, o, none⟩ = false := t2.f
    go_wp2_with fail
    refine bodyPost_ret (v := .agg #[.int .i64 pr, .int .i64 sq, .int .u8 k, .int .i64 me, .slice A1 m c1, .slice B1 n c2]) (by simp [results, Try.results33, go_sem, *]) rfl ⟨A1, c1, B1, c2, rfl, ?_, ?_⟩
    · iterate 6 refine Below.setCell ?_ (by simp <;> omega) _
      exact hB3
    · refine OpOwn.le (B0 := w.heap.size + 3) (by omega) ?_
      iterate 6 refine OpOwn.set ?_ _ _ _ (by omega)
      exact O3.out
#print axioms pick_own

set_option maxRecDepth 100000 in
set_option maxHeartbeats 4000000 in
theorem pick_help (i pr sq k me s ak ame : Int) (A B AA AB Z : Option Addr) (m ca n cb am aca an acb cz : Nat) (xs ys axs ays : List Value) (zs : List Int) (w : World)
    (i1 : -9223372036854775808 ≤ i) (i2 : i ≤ 9223372036854775807) (ho : OpIn w.heap.size w A m B n xs ys) (ha : OpIn w.heap.size w AA am AB an axs ays) (hI : IntsAt w.heap.size w Z zs) (hz : zs.length ≤ 1000) (hp : pickB i pr s zs = true) :
    Calls Try.prog 33 #[.int .i64 i, .agg #[.int .i64 pr, .int .i64 sq, .int .u8 k, .int .i64 me, .slice A m ca, .slice B n cb], .agg #[.int .i64 s, .int .u8 ak, .int .i64 ame, .slice AA am aca, .slice AB an acb], .slice Z zs.length cz] w fun e w' => Picked w (whoseI i zs.length) s ak ame am an axs ays e w' := by
  have hcp : ∀ W, Below w.heap.size w W → Calls Try.prog 47 #[.agg #[.int .u8 k, .int .i64 me, .slice A m ca, .slice B n cb]] W fun e w' => Copied W k me m n xs ys e w' := fun W hW =>
    copy_any k me A m ca B n cb xs ys W ((ho.below hW).le hW.size)
  have hca : ∀ W, Below w.heap.size w W → Calls Try.prog 47 #[.agg #[.int .u8 ak, .int .i64 ame, .slice AA am aca, .slice AB an acb]] W fun e w' => Copied W ak ame am an axs ays e w' := fun W hW =>
    copy_any ak ame AA am aca AB an acb axs ays W ((ha.below hW).le hW.size)
  have hhp : ∀ W, Calls Try.prog 28 #[.int .i64 i, .int .i64 zs.length, .int .i64 pr] W fun e w' => e = .returned (.tuple #[.int .i64 (whoseI i zs.length), .bool (helpsB i zs.length pr)]) ∧ w' = W := fun W => helps_any i zs.length pr W i1 i2
  have hpe : ∀ W, Below w.heap.size w W → Calls Try.prog 30 #[.agg #[.int .i64 s, .int .u8 ak, .int .i64 ame, .slice AA am aca, .slice AB an acb], .int .i64 (whoseI i zs.length), .slice Z zs.length cz] W fun e w' =>
      e = .returned (.bool (pendB s (whoseI i zs.length) zs)) ∧ Below W.heap.size W w' := fun W hW => pending_any s ak ame (whoseI i zs.length) AA AB am aca an acb Z cz zs hz W (fun j hj => by
        obtain ⟨b, off, h1, h2, h3⟩ := hI j hj
        exact ⟨b, off, h1, Nat.lt_of_lt_of_le h2 hW.size, (hW.cell (p := ⟨b, off + j, none⟩) h2).trans h3⟩)
  have HC := Lib.hid hcp
  have HA := Lib.hid hca
  have HH := Lib.hid hhp
  have HP := Lib.hid hpe
  have hzl : (zs.length : Int) ≤ 1000 := by omega
  have HZ := Lib.hid hz
  clear hcp hca hhp hpe ho ha hI hz
  unfold pickB at hp
  rw [Bool.and_eq_true] at hp
  obtain ⟨hh, hp⟩ := hp
  rw [hh] at HH
  rw [hp] at HP
  clear hh hp
  generalize whoseI i zs.length = q at *
  go_enter Try.func33, Try.ntmps33
  go_wp2_with fail
  obtain ⟨W, hW⟩ : ∃ W, ((w.alloc (.cells #[.int .i64 pr, .int .i64 sq, .int .u8 k, .int .i64 me, .slice A m ca, .slice B n cb] 58)).alloc (.cells #[.int .i64 s, .int .u8 ak, .int .i64 ame, .slice AA am aca, .slice AB an acb] 60)).alloc (.cells #[.int .i64 0, .int .i64 0, .int .u8 0, .int .i64 0, .slice none 0 0, .slice none 0 0] 58) = W := ⟨_, rfl⟩
  have z0 : W.heap.size = w.heap.size + 3 := by rw [← hW]; simp
  have hB0 : Below w.heap.size w W := by rw [← hW]; go_grown
  have b0 : Blk W w.heap.size [.int .i64 pr, .int .i64 sq, .int .u8 k, .int .i64 me, .slice A m ca, .slice B n cb] := by rw [← hW]; exact ((Blk.new w _ _).alloc _).alloc _
  have b1 : Blk W (w.heap.size + 1) [.int .i64 s, .int .u8 ak, .int .i64 ame, .slice AA am aca, .slice AB an acb] := by
    rw [← hW]
    have := (Blk.new (w.alloc (.cells #[.int .i64 pr, .int .i64 sq, .int .u8 k, .int .i64 me, .slice A m ca, .slice B n cb] 58)) #[.int .i64 s, .int .u8 ak, .int .i64 ame, .slice AA am aca, .slice AB an acb] 60).alloc (.cells #[.int .i64 0, .int .i64 0, .int .u8 0, .int .i64 0, .slice none 0 0, .slice none 0 0] 58)
    simpa using this
  have b2 : Blk W (w.heap.size + 1 + 1) [.int .i64 0, .int .i64 0, .int .u8 0, .int .i64 0, .slice none 0 0, .slice none 0 0] := by
    rw [← hW]
    have := Blk.new ((w.alloc (.cells #[.int .i64 pr, .int .i64 sq, .int .u8 k, .int .i64 me, .slice A m ca, .slice B n cb] 58)).alloc (.cells #[.int .i64 s, .int .u8 ak, .int .i64 ame, .slice AA am aca, .slice AB an acb] 60)) #[.int .i64 0, .int .i64 0, .int .u8 0, .int .i64 0, .slice none 0 0, .slice none 0 0] 58
    simpa using this
  rw [hW]
  have Z0 := Lib.hid z0
  clear hW z0
  have d0 : W.cell? ⟨w.heap.size, 0, none⟩ = some (.int .i64 pr) := b0.c 0 _ rfl
  have d1 : W.cell? ⟨w.heap.size, 1, none⟩ = some (.int .i64 sq) := b0.c 1 _ rfl
  have d2 : W.cell? ⟨w.heap.size, 2, none⟩ = some (.int .u8 k) := b0.c 2 _ rfl
  have d3 : W.cell? ⟨w.heap.size, 3, none⟩ = some (.int .i64 me) := b0.c 3 _ rfl
  have d4 : W.cell? ⟨w.heap.size, 4, none⟩ = some (.slice A m ca) := b0.c 4 _ rfl
  have d5 : W.cell? ⟨w.heap.size, 5, none⟩ = some (.slice B n cb) := b0.c 5 _ rfl
  have df : ∀ o, W.frozen? ⟨w.heap.size, o, none⟩ = false := b0.f
  go_wp2_with fail
  refine (HC.out _ hB0).mono ?_
  rintro e w1 ⟨A1, c1, B1, c2, rfl, hb1, hO1⟩
  have e0 := b0.below hb1
  have e1 := b1.below hb1
  have e2 := b2.below hb1
  have hB1 : Below w.heap.size w w1 := below_next hB0 hb1
  have O1 : Hid (OpOwn (w.heap.size + 3) w1 A1 B1 xs ys) := Lib.hid (hO1.le (by have := Z0.out; omega))
  clear d0 d1 d2 d3 d4 d5 df b0 b1 b2 hO1
  have d0 : w1.cell? ⟨w.heap.size, 0, none⟩ = some (.int .i64 pr) := e0.c 0 _ rfl
  have d1 : w1.cell? ⟨w.heap.size, 1, none⟩ = some (.int .i64 sq) := e0.c 1 _ rfl
  have d2 : w1.cell? ⟨w.heap.size, 2, none⟩ = some (.int .u8 k) := e0.c 2 _ rfl
  have d3 : w1.cell? ⟨w.heap.size, 3, none⟩ = some (.int .i64 me) := e0.c 3 _ rfl
  have d4 : w1.cell? ⟨w.heap.size, 4, none⟩ = some (.slice A m ca) := e0.c 4 _ rfl
  have d5 : w1.cell? ⟨w.heap.size, 5, none⟩ = some (.slice B n cb) := e0.c 5 _ rfl
  have df : ∀ o, w1.frozen? ⟨w.heap.size, o, none⟩ = false := e0.f
  have s0 := (((e0.set (j := 2) rfl (.int .u8 k)).set (j := 3) rfl (.int .i64 me)).set (j := 4) rfl (.slice A1 m c1)).set (j := 5) rfl (.slice B1 n c2)
  have s1 := (((e1.other (b' := w.heap.size) (by omega) 2 (.int .u8 k)).other (b' := w.heap.size) (by omega) 3 (.int .i64 me)).other (b' := w.heap.size) (by omega) 4 (.slice A1 m c1)).other (b' := w.heap.size) (by omega) 5 (.slice B1 n c2)
  have s2 := (((e2.other (b' := w.heap.size) (by omega) 2 (.int .u8 k)).other (b' := w.heap.size) (by omega) 3 (.int .i64 me)).other (b' := w.heap.size) (by omega) 4 (.slice A1 m c1)).other (b' := w.heap.size) (by omega) 5 (.slice B1 n c2)
  have hO2 := (((O1.out.set w.heap.size 2 (.int .u8 k) (by omega)).set w.heap.size 3 (.int .i64 me) (by omega)).set w.heap.size 4 (.slice A1 m c1) (by omega)).set w.heap.size 5 (.slice B1 n c2) (by omega)
  have hB2 : Below w.heap.size w ((((w1.setCell ⟨w.heap.size, 2, none⟩ (.int .u8 k)).setCell ⟨w.heap.size, 3, none⟩ (.int .i64 me)).setCell ⟨w.heap.size, 4, none⟩ (.slice A1 m c1)).setCell ⟨w.heap.size, 5, none⟩ (.slice B1 n c2)) := by
    iterate 4 refine Below.setCell ?_ (by simp <;> omega) _
    exact hB1
  have O2 := Lib.hid hO2
  have S0 : Hid (Blk _ _ [.int .i64 pr, .int .i64 sq, .int .u8 k, .int .i64 me, .slice A1 m c1, .slice B1 n c2]) := Lib.hid s0
  have S1 := Lib.hid s1
  have S2 := Lib.hid s2
  clear hO2 O1 e0 e1 e2 s0 s1 s2
  go_wp2_with fail
  generalize (((w1.setCell ⟨w.heap.size, 2, none⟩ (.int .u8 k)).setCell ⟨w.heap.size, 3, none⟩ (.int .i64 me)).setCell ⟨w.heap.size, 4, none⟩ (.slice A1 m c1)).setCell ⟨w.heap.size, 5, none⟩ (.slice B1 n c2) = w2 at *
  clear d0 d1 d2 d3 d4 d5 df
  have d0 : w2.cell? ⟨w.heap.size, 0, none⟩ = some (.int .i64 pr) := S0.out.c 0 _ rfl
  have d1 : w2.cell? ⟨w.heap.size, 1, none⟩ = some (.int .i64 sq) := S0.out.c 1 _ rfl
  have d2 : w2.cell? ⟨w.heap.size, 2, none⟩ = some (.int .u8 k) := S0.out.c 2 _ rfl
  have d3 : w2.cell? ⟨w.heap.size, 3, none⟩ = some (.int .i64 me) := S0.out.c 3 _ rfl
  have d4 : w2.cell? ⟨w.heap.size, 4, none⟩ = some (.slice A1 m c1) := S0.out.c 4 _ rfl
  have d5 : w2.cell? ⟨w.heap.size, 5, none⟩ = some (.slice B1 n c2) := S0.out.c 5 _ rfl
  have df : ∀ o, w2.frozen? ⟨w.heap.size, o, none⟩ = false := S0.out.f
  have a0 : w2.cell? ⟨w.heap.size + 1, 0, none⟩ = some (.int .i64 s) := S1.out.c 0 _ rfl
  have a1 : w2.cell? ⟨w.heap.size + 1, 1, none⟩ = some (.int .u8 ak) := S1.out.c 1 _ rfl
  have a2 : w2.cell? ⟨w.heap.size + 1, 2, none⟩ = some (.int .i64 ame) := S1.out.c 2 _ rfl
  have a3 : w2.cell? ⟨w.heap.size + 1, 3, none⟩ = some (.slice AA am aca) := S1.out.c 3 _ rfl
  have a4 : w2.cell? ⟨w.heap.size + 1, 4, none⟩ = some (.slice AB an acb) := S1.out.c 4 _ rfl
  have af : ∀ o, w2.frozen? ⟨w.heap.size + 1, o, none⟩ = false := S1.out.f
  go_wp2_with (first | (go_at_call 28; refine (HH.out _).mono ?_; rintro e w' ⟨rfl, hq⟩; subst hq) | fail)
  refine (HP.out _ hB2).mono ?_
  rintro e w3 ⟨rfl, hb3⟩
  have t1 := S1.out.below hb3
  have t2 := S2.out.below hb3
  have hB3 : Below w.heap.size w w3 := below_next hB2 hb3
  have T2 := Lib.hid t2
  clear d0 d1 d2 d3 d4 d5 df a0 a1 a2 a3 a4 af t2
  have a0 : w3.cell? ⟨w.heap.size + 1, 0, none⟩ = some (.int .i64 s) := t1.c 0 _ rfl
  have a1 : w3.cell? ⟨w.heap.size + 1, 1, none⟩ = some (.int .u8 ak) := t1.c 1 _ rfl
  have a2 : w3.cell? ⟨w.heap.size + 1, 2, none⟩ = some (.int .i64 ame) := t1.c 2 _ rfl
  have a3 : w3.cell? ⟨w.heap.size + 1, 3, none⟩ = some (.slice AA am aca) := t1.c 3 _ rfl
  have a4 : w3.cell? ⟨w.heap.size + 1, 4, none⟩ = some (.slice AB an acb) := t1.c 4 _ rfl
  have af : ∀ o, w3.frozen? ⟨w.heap.size + 1, o, none⟩ = false := t1.f
  go_wp2_with fail
  go_region_with (first
    | (go_at_call 47; refine (HA.out _ hB3.drew).mono ?_; rintro e w4 ⟨A3, c3, B3, c4, rfl, hb4, hO4⟩
       have u1 := t1.drew.below hb4
       have u2 := T2.out.drew.below hb4
       have hB4 : Below w.heap.size w w4 := below_next hB3.drew hb4
       have O4 : Hid (OpOwn (w.heap.size + 3) w4 A3 B3 axs ays) := Lib.hid (hO4.le (by have := hB2.size; have := hb3.size; have := T2.out.l; have := S2.out.l; simp at *; omega))
       have b0 : w4.cell? ⟨w.heap.size + 1, 0, none⟩ = some (.int .i64 s) := u1.c 0 _ rfl
       have b1 : w4.cell? ⟨w.heap.size + 1, 1, none⟩ = some (.int .u8 ak) := u1.c 1 _ rfl
       have b2 : w4.cell? ⟨w.heap.size + 1, 2, none⟩ = some (.int .i64 ame) := u1.c 2 _ rfl
       have b3 : w4.cell? ⟨w.heap.size + 1, 3, none⟩ = some (.slice AA am aca) := u1.c 3 _ rfl
       have b4 : w4.cell? ⟨w.heap.size + 1, 4, none⟩ = some (.slice AB an acb) := u1.c 4 _ rfl
       have bf : ∀ o, w4.frozen? ⟨w.heap.size + 1, o, none⟩ = false := u1.f
       have r0 : w4.cell? ⟨w.heap.size + 1 + 1, 0, none⟩ = some (.int .i64 0) := u2.c 0 _ rfl
       have r1 : w4.cell? ⟨w.heap.size + 1 + 1, 1, none⟩ = some (.int .i64 0) := u2.c 1 _ rfl
       have r2 : w4.cell? ⟨w.heap.size + 1 + 1, 2, none⟩ = some (.int .u8 0) := u2.c 2 _ rfl
       have r3 : w4.cell? ⟨w.heap.size + 1 + 1, 3, none⟩ = some (.int .i64 0) := u2.c 3 _ rfl
       have r4 : w4.cell? ⟨w.heap.size + 1 + 1, 4, none⟩ = some (.slice none 0 0) := u2.c 4 _ rfl
       have r5 : w4.cell? ⟨w.heap.size + 1 + 1, 5, none⟩ = some (.slice none 0 0) := u2.c 5 _ rfl
       have rf : ∀ o, w4.frozen? ⟨w.heap.size + 1 + 1, o, none⟩ = false := u2.f
       clear hb4 hO4 u1 u2)
    | fail)
  all_goals
    go_wp2_with fail
    refine bodyPost_ret (v := .agg #[.int .i64 q, .int .i64 s, .int .u8 ak, .int .i64 ame, .slice A3 am c3, .slice B3 an c4]) (by simp [results, Try.results33, go_sem, *]) rfl ⟨A3, c3, B3, c4, rfl, ?_, ?_⟩
    · iterate 6 refine Below.setCell ?_ (by simp <;> omega) _
      exact hB4
    · refine OpOwn.le (B0 := w.heap.size + 3) (by omega) ?_
      iterate 6 refine OpOwn.set ?_ _ _ _ (by omega)
      exact O4.out
#print axioms pick_help

end Go.Proofs.Ytkjmnmcekhnkmab
