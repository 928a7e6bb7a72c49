/- Announcements: the reference's Pick; contents of operations, copied and as they came. -/
import Derived.Test.YtkjmnmcekhnkmabAnnK
namespace Go.Proofs.Ytkjmnmcekhnkmab
open Go.RowKit Go.Shelf
set_option linter.unusedSimpArgs false
set_option linter.unusedVariables false

/-- The cells of values. -/
def valCells (u : List Val3) : List Value := (List.range (u.length * 3)).map fun j => if j % 3 = 0 then .int .u8 (u[j / 3]?.getD (0, 0, 0)).1 else if j % 3 = 1 then .int .i64 (u[j / 3]?.getD (0, 0, 0)).2.1 else .int .i64 (u[j / 3]?.getD (0, 0, 0)).2.2
def byteCells (x : List Int) : List Value := x.map (Value.int .u8)
theorem valCells_length (u : List Val3) : (valCells u).length = u.length * 3 := by simp [valCells]
theorem byteCells_length (x : List Int) : (byteCells x).length = x.length * 1 := by simp [byteCells]
theorem valCells_one (u : List Val3) : ∀ c ∈ valCells u, c.oneCell' = true := by
  intro c hc
  obtain ⟨j, -, rfl⟩ := List.mem_map.1 hc
  split
  · rfl
  · split <;> rfl
theorem byteCells_one (x : List Int) : ∀ c ∈ byteCells x, c.oneCell' = true := by
  intro c hc
  obtain ⟨j, -, rfl⟩ := List.mem_map.1 hc
  rfl
theorem valCells_get (u : List Val3) (j q : Nat) (hj : j < u.length) (hq : q < 3) : (valCells u)[j * 3 + q]? = some (if q = 0 then .int .u8 (u[j]?.getD (0, 0, 0)).1 else if q = 1 then .int .i64 (u[j]?.getD (0, 0, 0)).2.1 else .int .i64 (u[j]?.getD (0, 0, 0)).2.2) := by
  unfold valCells
  rw [List.getElem?_map, List.getElem?_range (by omega), Option.map_some, show (j * 3 + q) % 3 = q by omega, show (j * 3 + q) / 3 = j by omega]
theorem byteCells_get (x : List Int) (j : Nat) (hj : j < x.length) : (byteCells x)[j]? = some (.int .u8 (x[j]?.getD 0)) := by
  unfold byteCells
  rw [List.getElem?_map, List.getElem?_eq_getElem hj]
  rfl

theorem ValsAt.cells {W : World} {A : Option Addr} {u : List Val3} {n₀ : Nat} (h : ValsAt W A u) (hl : ∀ a : Addr, A = some a → u ≠ [] → a.block < n₀) : CellsIn n₀ W A (valCells u) := by
  intro j hj
  rw [valCells_length] at hj
  have hj3 : j / 3 < u.length := by omega
  obtain ⟨b, off, e, h0, h1, h2⟩ := h (j / 3) hj3
  refine ⟨b, off, e, hl _ e (by intro e2; rw [e2] at hj3; simp at hj3), ?_⟩
  have hd : j = j / 3 * 3 + j % 3 := by omega
  have hq : j % 3 < 3 := by omega
  have hv := valCells_get u (j / 3) (j % 3) hj3 hq
  rw [← hd] at hv
  rw [hv]
  rcases (show j % 3 = 0 ∨ j % 3 = 1 ∨ j % 3 = 2 by omega) with e3 | e3 | e3
  · rw [e3, if_pos rfl, show off + j = off + j / 3 * 3 by omega]; exact h0
  · rw [e3, if_neg (by omega), if_pos rfl, show off + j = off + j / 3 * 3 + 1 by omega]; exact h1
  · rw [e3, if_neg (by omega), if_neg (by omega), show off + j = off + j / 3 * 3 + 2 by omega]; exact h2
theorem BytesAt.cells {W : World} {A : Option Addr} {x : List Int} {n₀ : Nat} (h : BytesAt W A x) (hl : ∀ a : Addr, A = some a → x ≠ [] → a.block < n₀) : CellsIn n₀ W A (byteCells x) := by
  intro j hj
  rw [byteCells_length] at hj
  have hj : j < x.length := by omega
  obtain ⟨b, off, e, h0⟩ := h j hj
  exact ⟨b, off, e, hl _ e (by intro e2; rw [e2] at hj; simp at hj), by rw [byteCells_get x j hj]; exact h0⟩
theorem FreshIn.vals {B0 : Nat} {W : World} {A : Option Addr} {u : List Val3} (h : FreshIn B0 W A (valCells u)) : ValsAt W A u := by
  intro j hj
  have g := fun q hq => h (j * 3 + q) (by rw [valCells_length]; omega : j * 3 + q < (valCells u).length)
  obtain ⟨b, e, -, -, c0, -⟩ := h (j * 3 + 0) (by rw [valCells_length]; omega)
  obtain ⟨b1, e1, -, -, c1, -⟩ := h (j * 3 + 1) (by rw [valCells_length]; omega)
  obtain ⟨b2, e2, -, -, c2, -⟩ := h (j * 3 + 2) (by rw [valCells_length]; omega)
  rw [e] at e1 e2
  injection e1 with e1; injection e1 with e1
  injection e2 with e2; injection e2 with e2
  subst e1 e2
  rw [valCells_get u j _ hj (by omega)] at c0 c1 c2
  exact ⟨b, 0, e, by rw [Nat.zero_add]; exact c0, by rw [Nat.zero_add]; exact c1, by rw [Nat.zero_add]; exact c2⟩
theorem FreshIn.bytes {B0 : Nat} {W : World} {A : Option Addr} {x : List Int} (h : FreshIn B0 W A (byteCells x)) : BytesAt W A x := by
  intro j hj
  obtain ⟨b, e, -, -, c0, -⟩ := h j (by rw [byteCells_length]; omega)
  rw [byteCells_get x j hj] at c0
  exact ⟨b, 0, e, by rw [Nat.zero_add]; exact c0⟩

/-- An operation that came in: its contents, and that they lie below. -/
structure OpHas (W : World) (A : Option Addr) (m : Nat) (B : Option Addr) (n : Nat) (u : List Val3) (x : List Int) : Prop where
  at' : OpAt W A m B n u x
  la : ∀ a : Addr, A = some a → u ≠ [] → a.block < W.heap.size
  lb : ∀ a : Addr, B = some a → x ≠ [] → a.block < W.heap.size
theorem OpHas.opIn {W : World} {A : Option Addr} {m : Nat} {B : Option Addr} {n : Nat} {u : List Val3} {x : List Int} (h : OpHas W A m B n u x) : OpIn W.heap.size W A m B n (valCells u) (byteCells x) :=
  ⟨h.at'.na, h.at'.nb, h.at'.ma, h.at'.mb, by rw [valCells_length, h.at'.lu], by rw [byteCells_length, h.at'.lx], valCells_one u, byteCells_one x, h.at'.va.cells h.la, h.at'.vb.cells h.lb⟩

set_option maxRecDepth 100000 in
set_option maxHeartbeats 4000000 in
theorem refPick_own (i pr sq k me s ak ame : Int) (A B AA AB Z : Option Addr) (m ca n cb am aca an acb cz : Nat) (zs : List Int) (w : World)
    (i1 : -9223372036854775808 ≤ i) (i2 : i ≤ 9223372036854775807) (hI : IntsAt w.heap.size w Z zs) (hz : zs.length ≤ 1000) (hp : pickB i pr s zs = false) :
    Calls Try.prog 32 #[.int .i64 i, .agg #[.int .i64 pr, .int .i64 sq, .int .u8 k, .int .i64 me, .slice A m ca, .slice B n cb], .agg #[.int .i64 s, .int .u8 ak, .int .i64 ame, .slice AA am aca, .slice AB an acb], .slice Z zs.length cz] w fun e w' => e = .returned (.agg #[.int .i64 pr, .int .i64 sq, .int .u8 k, .int .i64 me, .slice A m ca, .slice B n cb]) ∧ Below w.heap.size w w' := by
  obtain ⟨W, hW⟩ : ∃ W, ((w.alloc (.cells #[.int .i64 pr, .int .i64 sq, .int .u8 k, .int .i64 me, .slice A m ca, .slice B n cb] 58)).alloc (.cells #[.int .i64 s, .int .u8 ak, .int .i64 ame, .slice AA am aca, .slice AB an acb] 60)).alloc (.cells #[.int .i64 0, .int .i64 0, .int .u8 0, .int .i64 0, .slice none 0 0, .slice none 0 0] 58) = W := ⟨_, rfl⟩
  have z0 : W.heap.size = w.heap.size + 3 := by rw [← hW]; simp
  have hB0 : Below w.heap.size w W := by rw [← hW]; go_grown
  have b0 : Blk W w.heap.size [.int .i64 pr, .int .i64 sq, .int .u8 k, .int .i64 me, .slice A m ca, .slice B n cb] := by rw [← hW]; exact ((Blk.new w _ _).alloc _).alloc _
  have b1 : Blk W (w.heap.size + 1) [.int .i64 s, .int .u8 ak, .int .i64 ame, .slice AA am aca, .slice AB an acb] := by
    rw [← hW]
    have := (Blk.new (w.alloc (.cells #[.int .i64 pr, .int .i64 sq, .int .u8 k, .int .i64 me, .slice A m ca, .slice B n cb] 58)) #[.int .i64 s, .int .u8 ak, .int .i64 ame, .slice AA am aca, .slice AB an acb] 60).alloc (.cells #[.int .i64 0, .int .i64 0, .int .u8 0, .int .i64 0, .slice none 0 0, .slice none 0 0] 58)
    simpa using this
  have b2 : Blk W (w.heap.size + 1 + 1) [.int .i64 0, .int .i64 0, .int .u8 0, .int .i64 0, .slice none 0 0, .slice none 0 0] := by
    rw [← hW]
    have := Blk.new ((w.alloc (.cells #[.int .i64 pr, .int .i64 sq, .int .u8 k, .int .i64 me, .slice A m ca, .slice B n cb] 58)).alloc (.cells #[.int .i64 s, .int .u8 ak, .int .i64 ame, .slice AA am aca, .slice AB an acb] 60)) #[.int .i64 0, .int .i64 0, .int .u8 0, .int .i64 0, .slice none 0 0, .slice none 0 0] 58
    simpa using this
  have hwh : ∀ W, Calls Try.prog 27 #[.int .i64 i, .int .i64 zs.length] W fun e w' => e = .returned (.int .i64 (whoseI i zs.length)) ∧ w' = W := fun W => refWhose_any i zs.length W i1 i2
  have hpe : ∀ W, Below w.heap.size w W → Calls Try.prog 31 #[.agg #[.int .i64 s, .int .u8 ak, .int .i64 ame, .slice AA am aca, .slice AB an acb], .int .i64 (whoseI i zs.length), .slice Z zs.length cz] W fun e w' =>
      e = .returned (.bool (pendB s (whoseI i zs.length) zs)) ∧ Below W.heap.size W w' := fun W hW => refPending_any s ak ame (whoseI i zs.length) AA AB am aca an acb Z cz zs hz W (fun j hj => by
        obtain ⟨b, off, h1, h2, h3⟩ := hI j hj
        exact ⟨b, off, h1, Nat.lt_of_lt_of_le h2 hW.size, (hW.cell (p := ⟨b, off + j, none⟩) h2).trans h3⟩)
  have HWH := Lib.hid hwh
  have HPE := Lib.hid hpe
  have HW := Lib.hid hW
  have Z0 := Lib.hid z0
  have hz' : (zs.length : Int) ≤ 1000 := by omega
  unfold pickB at hp
  have HP := Lib.hid hp
  clear hwh hpe hW z0 hI hz hp
  unfold helpsB at HP
  generalize whoseI i zs.length = q at *
  by_cases h0 : q < 0
  · clear HP
    go_enter Try.func32, Try.ntmps32
    go_wp2_with fail
    rw [HW.out]
    have d0 : W.cell? ⟨w.heap.size, 0, none⟩ = some (.int .i64 pr) := b0.c 0 _ rfl
    have d1 : W.cell? ⟨w.heap.size, 1, none⟩ = some (.int .i64 sq) := b0.c 1 _ rfl
    have d2 : W.cell? ⟨w.heap.size, 2, none⟩ = some (.int .u8 k) := b0.c 2 _ rfl
    have d3 : W.cell? ⟨w.heap.size, 3, none⟩ = some (.int .i64 me) := b0.c 3 _ rfl
    have d4 : W.cell? ⟨w.heap.size, 4, none⟩ = some (.slice A m ca) := b0.c 4 _ rfl
    have d5 : W.cell? ⟨w.heap.size, 5, none⟩ = some (.slice B n cb) := b0.c 5 _ rfl
    have df : ∀ o, W.frozen? ⟨w.heap.size, o, none⟩ = false := b0.f
    have r0 : W.cell? ⟨w.heap.size + 1 + 1, 0, none⟩ = some (.int .i64 0) := b2.c 0 _ rfl
    have r1 : W.cell? ⟨w.heap.size + 1 + 1, 1, none⟩ = some (.int .i64 0) := b2.c 1 _ rfl
    have r2 : W.cell? ⟨w.heap.size + 1 + 1, 2, none⟩ = some (.int .u8 0) := b2.c 2 _ rfl
    have r3 : W.cell? ⟨w.heap.size + 1 + 1, 3, none⟩ = some (.int .i64 0) := b2.c 3 _ rfl
    have r4 : W.cell? ⟨w.heap.size + 1 + 1, 4, none⟩ = some (.slice none 0 0) := b2.c 4 _ rfl
    have r5 : W.cell? ⟨w.heap.size + 1 + 1, 5, none⟩ = some (.slice none 0 0) := b2.c 5 _ rfl
    have rf : ∀ o, W.frozen? ⟨w.heap.size + 1 + 1, o, none⟩ = false := b2.f
    refine (HWH.out _).mono ?_
    rintro e w' ⟨rfl, hq⟩
    subst hq
    go_wp2_with fail
    refine bodyPost_ret (v := .agg #[.int .i64 pr, .int .i64 sq, .int .u8 k, .int .i64 me, .slice A m ca, .slice B n cb]) (by simp [results, Try.results32, go_sem, *]) rfl ⟨rfl, ?_⟩
    iterate 6 refine Below.setCell ?_ (by simp <;> omega) _
    exact hB0
  · by_cases h1 : q = pr
    · have e1 : (q == pr) = true := by rw [beq_iff_eq]; exact h1
      have H1 := Lib.hid h1
      clear HP h1
      go_enter Try.func32, Try.ntmps32
      go_wp2_with fail
      rw [HW.out]
      have d0 : W.cell? ⟨w.heap.size, 0, none⟩ = some (.int .i64 pr) := b0.c 0 _ rfl
      have d1 : W.cell? ⟨w.heap.size, 1, none⟩ = some (.int .i64 sq) := b0.c 1 _ rfl
      have d2 : W.cell? ⟨w.heap.size, 2, none⟩ = some (.int .u8 k) := b0.c 2 _ rfl
      have d3 : W.cell? ⟨w.heap.size, 3, none⟩ = some (.int .i64 me) := b0.c 3 _ rfl
      have d4 : W.cell? ⟨w.heap.size, 4, none⟩ = some (.slice A m ca) := b0.c 4 _ rfl
      have d5 : W.cell? ⟨w.heap.size, 5, none⟩ = some (.slice B n cb) := b0.c 5 _ rfl
      have df : ∀ o, W.frozen? ⟨w.heap.size, o, none⟩ = false := b0.f
      have r0 : W.cell? ⟨w.heap.size + 1 + 1, 0, none⟩ = some (.int .i64 0) := b2.c 0 _ rfl
      have r1 : W.cell? ⟨w.heap.size + 1 + 1, 1, none⟩ = some (.int .i64 0) := b2.c 1 _ rfl
      have r2 : W.cell? ⟨w.heap.size + 1 + 1, 2, none⟩ = some (.int .u8 0) := b2.c 2 _ rfl
      have r3 : W.cell? ⟨w.heap.size + 1 + 1, 3, none⟩ = some (.int .i64 0) := b2.c 3 _ rfl
      have r4 : W.cell? ⟨w.heap.size + 1 + 1, 4, none⟩ = some (.slice none 0 0) := b2.c 4 _ rfl
      have r5 : W.cell? ⟨w.heap.size + 1 + 1, 5, none⟩ = some (.slice none 0 0) := b2.c 5 _ rfl
      have rf : ∀ o, W.frozen? ⟨w.heap.size + 1 + 1, o, none⟩ = false := b2.f
      refine (HWH.out _).mono ?_
      rintro e w' ⟨rfl, hq⟩
      subst hq
      go_wp2_with fail
      refine bodyPost_ret (v := .agg #[.int .i64 pr, .int .i64 sq, .int .u8 k, .int .i64 me, .slice A m ca, .slice B n cb]) (by simp [results, Try.results32, go_sem, *]) rfl ⟨rfl, ?_⟩
      iterate 6 refine Below.setCell ?_ (by simp <;> omega) _
      exact hB0
    · have e1 : (q == pr) = false := by rw [beq_eq_false_iff_ne]; exact h1
      have hpf : pendB s q zs = false := by
        have := HP.out
        rw [decide_eq_true (by omega : 0 ≤ q), decide_eq_false h1] at this
        simpa using this
      rw [hpf] at HPE
      clear HP h1 hpf
      go_enter Try.func32, Try.ntmps32
      go_wp2_with fail
      rw [HW.out]
      have d0 : W.cell? ⟨w.heap.size, 0, none⟩ = some (.int .i64 pr) := b0.c 0 _ rfl
      have d1 : W.cell? ⟨w.heap.size, 1, none⟩ = some (.int .i64 sq) := b0.c 1 _ rfl
      have d2 : W.cell? ⟨w.heap.size, 2, none⟩ = some (.int .u8 k) := b0.c 2 _ rfl
      have d3 : W.cell? ⟨w.heap.size, 3, none⟩ = some (.int .i64 me) := b0.c 3 _ rfl
      have d4 : W.cell? ⟨w.heap.size, 4, none⟩ = some (.slice A m ca) := b0.c 4 _ rfl
      have d5 : W.cell? ⟨w.heap.size, 5, none⟩ = some (.slice B n cb) := b0.c 5 _ rfl
      have df : ∀ o, W.frozen? ⟨w.heap.size, o, none⟩ = false := b0.f
      have a0 : W.cell? ⟨w.heap.size + 1, 0, none⟩ = some (.int .i64 s) := b1.c 0 _ rfl
      have a1 : W.cell? ⟨w.heap.size + 1, 1, none⟩ = some (.int .u8 ak) := b1.c 1 _ rfl
      have a2 : W.cell? ⟨w.heap.size + 1, 2, none⟩ = some (.int .i64 ame) := b1.c 2 _ rfl
      have a3 : W.cell? ⟨w.heap.size + 1, 3, none⟩ = some (.slice AA am aca) := b1.c 3 _ rfl
      have a4 : W.cell? ⟨w.heap.size + 1, 4, none⟩ = some (.slice AB an acb) := b1.c 4 _ rfl
      have af : ∀ o, W.frozen? ⟨w.heap.size + 1, o, none⟩ = false := b1.f
      refine (HWH.out _).mono ?_
      rintro e w' ⟨rfl, hq⟩
      subst hq
      go_wp2_with fail
      refine (HPE.out _ hB0).mono ?_
      rintro e w3 ⟨rfl, hb3⟩
      have t0 := b0.below hb3
      have t2 := b2.below hb3
      have hB3 : Below w.heap.size w w3 := below_next hB0 hb3
      clear d0 d1 d2 d3 d4 d5 df a0 a1 a2 a3 a4 af
      have d0 : w3.cell? ⟨w.heap.size, 0, none⟩ = some (.int .i64 pr) := t0.c 0 _ rfl
      have d1 : w3.cell? ⟨w.heap.size, 1, none⟩ = some (.int .i64 sq) := t0.c 1 _ rfl
      have d2 : w3.cell? ⟨w.heap.size, 2, none⟩ = some (.int .u8 k) := t0.c 2 _ rfl
      have d3 : w3.cell? ⟨w.heap.size, 3, none⟩ = some (.int .i64 me) := t0.c 3 _ rfl
      have d4 : w3.cell? ⟨w.heap.size, 4, none⟩ = some (.slice A m ca) := t0.c 4 _ rfl
      have d5 : w3.cell? ⟨w.heap.size, 5, none⟩ = some (.slice B n cb) := t0.c 5 _ rfl
      have df : ∀ o, w3.frozen? ⟨w.heap.size, o, none⟩ = false := t0.f
      have r0 : w3.cell? ⟨w.heap.size + 1 + 1, 0, none⟩ = some (.int .i64 0) := t2.c 0 _ rfl
      have r1 : w3.cell? ⟨w.heap.size + 1 + 1, 1, none⟩ = some (.int .i64 0) := t2.c 1 _ rfl
      have r2 : w3.cell? ⟨w.heap.size + 1 + 1, 2, none⟩ = some (.int .u8 0) := t2.c 2 _ rfl
      have r3 : w3.cell? ⟨w.heap.size + 1 + 1, 3, none⟩ = some (.int .i64 0) := t2.c 3 _ rfl
      have r4 : w3.cell? ⟨w.heap.size + 1 + 1, 4, none⟩ = some (.slice none 0 0) := t2.c 4 _ rfl
      have r5 : w3.cell? ⟨w.heap.size + 1 + 1, 5, none⟩ = some (.slice none 0 0) := t2.c 5 _ rfl
      have rf : ∀ o, w3.frozen? ⟨w.heap.size + 1 + 1, o, none⟩ = false := t2.f
      go_wp2_with fail
      refine bodyPost_ret (v := .agg #[.int .i64 pr, .int .i64 sq, .int .u8 k, .int .i64 me, .slice A m ca, .slice B n cb]) (by simp [results, Try.results32, go_sem, *]) rfl ⟨rfl, ?_⟩
      iterate 6 refine Below.setCell ?_ (by simp <;> omega) _
      exact hB3
#print axioms refPick_own

set_option maxRecDepth 100000 in
set_option maxHeartbeats 4000000 in
theorem refPick_help (i pr sq k me s ak ame : Int) (A B AA AB Z : Option Addr) (m ca n cb am aca an acb cz : Nat) (zs : List Int) (w : World)
    (i1 : -9223372036854775808 ≤ i) (i2 : i ≤ 9223372036854775807) (hI : IntsAt w.heap.size w Z zs) (hz : zs.length ≤ 1000) (hp : pickB i pr s zs = true) :
    Calls Try.prog 32 #[.int .i64 i, .agg #[.int .i64 pr, .int .i64 sq, .int .u8 k, .int .i64 me, .slice A m ca, .slice B n cb], .agg #[.int .i64 s, .int .u8 ak, .int .i64 ame, .slice AA am aca, .slice AB an acb], .slice Z zs.length cz] w fun e w' => e = .returned (.agg #[.int .i64 (whoseI i zs.length), .int .i64 s, .int .u8 ak, .int .i64 ame, .slice AA am aca, .slice AB an acb]) ∧ Below w.heap.size w w' := by
  obtain ⟨W, hW⟩ : ∃ W, ((w.alloc (.cells #[.int .i64 pr, .int .i64 sq, .int .u8 k, .int .i64 me, .slice A m ca, .slice B n cb] 58)).alloc (.cells #[.int .i64 s, .int .u8 ak, .int .i64 ame, .slice AA am aca, .slice AB an acb] 60)).alloc (.cells #[.int .i64 0, .int .i64 0, .int .u8 0, .int .i64 0, .slice none 0 0, .slice none 0 0] 58) = W := ⟨_, rfl⟩
  have z0 : W.heap.size = w.heap.size + 3 := by rw [← hW]; simp
  have hB0 : Below w.heap.size w W := by rw [← hW]; go_grown
  have b0 : Blk W w.heap.size [.int .i64 pr, .int .i64 sq, .int .u8 k, .int .i64 me, .slice A m ca, .slice B n cb] := by rw [← hW]; exact ((Blk.new w _ _).alloc _).alloc _
  have b1 : Blk W (w.heap.size + 1) [.int .i64 s, .int .u8 ak, .int .i64 ame, .slice AA am aca, .slice AB an acb] := by
    rw [← hW]
    have := (Blk.new (w.alloc (.cells #[.int .i64 pr, .int .i64 sq, .int .u8 k, .int .i64 me, .slice A m ca, .slice B n cb] 58)) #[.int .i64 s, .int .u8 ak, .int .i64 ame, .slice AA am aca, .slice AB an acb] 60).alloc (.cells #[.int .i64 0, .int .i64 0, .int .u8 0, .int .i64 0, .slice none 0 0, .slice none 0 0] 58)
    simpa using this
  have b2 : Blk W (w.heap.size + 1 + 1) [.int .i64 0, .int .i64 0, .int .u8 0, .int .i64 0, .slice none 0 0, .slice none 0 0] := by
    rw [← hW]
    have := Blk.new ((w.alloc (.cells #[.int .i64 pr, .int .i64 sq, .int .u8 k, .int .i64 me, .slice A m ca, .slice B n cb] 58)).alloc (.cells #[.int .i64 s, .int .u8 ak, .int .i64 ame, .slice AA am aca, .slice AB an acb] 60)) #[.int .i64 0, .int .i64 0, .int .u8 0, .int .i64 0, .slice none 0 0, .slice none 0 0] 58
    simpa using this
  have hwh : ∀ W, Calls Try.prog 27 #[.int .i64 i, .int .i64 zs.length] W fun e w' => e = .returned (.int .i64 (whoseI i zs.length)) ∧ w' = W := fun W => refWhose_any i zs.length W i1 i2
  have hpe : ∀ W, Below w.heap.size w W → Calls Try.prog 31 #[.agg #[.int .i64 s, .int .u8 ak, .int .i64 ame, .slice AA am aca, .slice AB an acb], .int .i64 (whoseI i zs.length), .slice Z zs.length cz] W fun e w' =>
      e = .returned (.bool (pendB s (whoseI i zs.length) zs)) ∧ Below W.heap.size W w' := fun W hW => refPending_any s ak ame (whoseI i zs.length) AA AB am aca an acb Z cz zs hz W (fun j hj => by
        obtain ⟨b, off, h1, h2, h3⟩ := hI j hj
        exact ⟨b, off, h1, Nat.lt_of_lt_of_le h2 hW.size, (hW.cell (p := ⟨b, off + j, none⟩) h2).trans h3⟩)
  unfold pickB helpsB at hp
  rw [Bool.and_eq_true, Bool.and_eq_true, decide_eq_true_iff, Bool.not_eq_true', decide_eq_false_iff_not] at hp
  obtain ⟨⟨h0, h1⟩, h2⟩ := hp
  rw [h2] at hpe
  have HWH := Lib.hid hwh
  have HPE := Lib.hid hpe
  have HW := Lib.hid hW
  have Z0 := Lib.hid z0
  have hz' : (zs.length : Int) ≤ 1000 := by omega
  clear hwh hpe hW z0 hI hz h2
  generalize whoseI i zs.length = q at *
  have e1 : (q == pr) = false := by rw [beq_eq_false_iff_ne]; exact h1
  clear h1
  go_enter Try.func32, Try.ntmps32
  go_wp2_with fail
  rw [HW.out]
  have d0 : W.cell? ⟨w.heap.size, 0, none⟩ = some (.int .i64 pr) := b0.c 0 _ rfl
  have d1 : W.cell? ⟨w.heap.size, 1, none⟩ = some (.int .i64 sq) := b0.c 1 _ rfl
  have d2 : W.cell? ⟨w.heap.size, 2, none⟩ = some (.int .u8 k) := b0.c 2 _ rfl
  have d3 : W.cell? ⟨w.heap.size, 3, none⟩ = some (.int .i64 me) := b0.c 3 _ rfl
  have d4 : W.cell? ⟨w.heap.size, 4, none⟩ = some (.slice A m ca) := b0.c 4 _ rfl
  have d5 : W.cell? ⟨w.heap.size, 5, none⟩ = some (.slice B n cb) := b0.c 5 _ rfl
  have df : ∀ o, W.frozen? ⟨w.heap.size, o, none⟩ = false := b0.f
  have a0 : W.cell? ⟨w.heap.size + 1, 0, none⟩ = some (.int .i64 s) := b1.c 0 _ rfl
  have a1 : W.cell? ⟨w.heap.size + 1, 1, none⟩ = some (.int .u8 ak) := b1.c 1 _ rfl
  have a2 : W.cell? ⟨w.heap.size + 1, 2, none⟩ = some (.int .i64 ame) := b1.c 2 _ rfl
  have a3 : W.cell? ⟨w.heap.size + 1, 3, none⟩ = some (.slice AA am aca) := b1.c 3 _ rfl
  have a4 : W.cell? ⟨w.heap.size + 1, 4, none⟩ = some (.slice AB an acb) := b1.c 4 _ rfl
  have af : ∀ o, W.frozen? ⟨w.heap.size + 1, o, none⟩ = false := b1.f
  refine (HWH.out _).mono ?_
  rintro e w' ⟨rfl, hq⟩
  subst hq
  go_wp2_with fail
  refine (HPE.out _ hB0).mono ?_
  rintro e w3 ⟨rfl, hb3⟩
  have t1 := b1.below hb3
  have t2 := b2.below hb3
  have hB3 : Below w.heap.size w w3 := below_next hB0 hb3
  clear d0 d1 d2 d3 d4 d5 df a0 a1 a2 a3 a4 af
  have a0 : w3.cell? ⟨w.heap.size + 1, 0, none⟩ = some (.int .i64 s) := t1.c 0 _ rfl
  have a1 : w3.cell? ⟨w.heap.size + 1, 1, none⟩ = some (.int .u8 ak) := t1.c 1 _ rfl
  have a2 : w3.cell? ⟨w.heap.size + 1, 2, none⟩ = some (.int .i64 ame) := t1.c 2 _ rfl
  have a3 : w3.cell? ⟨w.heap.size + 1, 3, none⟩ = some (.slice AA am aca) := t1.c 3 _ rfl
  have a4 : w3.cell? ⟨w.heap.size + 1, 4, none⟩ = some (.slice AB an acb) := t1.c 4 _ rfl
  have af : ∀ o, w3.frozen? ⟨w.heap.size + 1, o, none⟩ = false := t1.f
  have r0 : w3.cell? ⟨w.heap.size + 1 + 1, 0, none⟩ = some (.int .i64 0) := t2.c 0 _ rfl
  have r1 : w3.cell? ⟨w.heap.size + 1 + 1, 1, none⟩ = some (.int .i64 0) := t2.c 1 _ rfl
  have r2 : w3.cell? ⟨w.heap.size + 1 + 1, 2, none⟩ = some (.int .u8 0) := t2.c 2 _ rfl
  have r3 : w3.cell? ⟨w.heap.size + 1 + 1, 3, none⟩ = some (.int .i64 0) := t2.c 3 _ rfl
  have r4 : w3.cell? ⟨w.heap.size + 1 + 1, 4, none⟩ = some (.slice none 0 0) := t2.c 4 _ rfl
  have r5 : w3.cell? ⟨w.heap.size + 1 + 1, 5, none⟩ = some (.slice none 0 0) := t2.c 5 _ rfl
  have rf : ∀ o, w3.frozen? ⟨w.heap.size + 1 + 1, o, none⟩ = false := t2.f
  go_wp2_with fail
  try go_region
  all_goals
    go_wp2_with fail
    refine bodyPost_ret (v := .agg #[.int .i64 q, .int .i64 s, .int .u8 ak, .int .i64 ame, .slice AA am aca, .slice AB an acb]) (by simp [results, Try.results32, go_sem, *]) rfl ⟨rfl, ?_⟩
    iterate 6 refine Below.setCell ?_ (by simp <;> omega) _
    exact hB3
#print axioms refPick_help
end Go.Proofs.Ytkjmnmcekhnkmab
