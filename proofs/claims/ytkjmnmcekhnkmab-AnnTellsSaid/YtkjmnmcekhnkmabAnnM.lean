/- Whose an index is, who is helped, what is pending, and what is put forward: the law's walk. -/
import Derived.Test.YtkjmnmcekhnkmabAnnL
import Derived.Deep.DeepCutAuto
import Derived.Lib.QuietBelow
namespace Go.Proofs.Ytkjmnmcekhnkmab
open Go.RowKit Go.Shelf Go.Sort
set_option linter.unusedSimpArgs false
set_option linter.unusedVariables false


/-- What the loop over the bytes has done when k rounds are over: to V0's world. -/
structure BInc (V0 V : World) (B1 : Option Addr) (X : List Int) (k : Nat) : Prop where
  c : ∀ j, j < X.length → ∃ g, B1 = some ⟨g, 0, none⟩ ∧ V.cell? ⟨g, j, none⟩ = some (.int .u8 (if j < k then IntKind.u8.wrap (X[j]?.getD 0 + 1) else X[j]?.getD 0)) ∧ V.frozen? ⟨g, j, none⟩ = false
  o : ∀ b o, (∀ a : Addr, B1 = some a → X ≠ [] → a.block ≠ b) → V.cell? ⟨b, o, none⟩ = V0.cell? ⟨b, o, none⟩
  f : ∀ b o, V.frozen? ⟨b, o, none⟩ = V0.frozen? ⟨b, o, none⟩
  s : V.heap.size = V0.heap.size
theorem BInc.zero {B0 : Nat} {V : World} {B1 : Option Addr} {X : List Int} (h : FreshIn B0 V B1 (byteCells X)) : BInc V V B1 X 0 :=
  ⟨fun j hj => by
    obtain ⟨g, e, -, -, c, f⟩ := h j (by rw [byteCells_length]; omega)
    rw [byteCells_get X j hj] at c
    exact ⟨g, e, by rw [if_neg (by omega)]; exact c, f⟩, fun _ _ _ => rfl, fun _ _ => rfl, rfl⟩
theorem BInc.step {V0 V : World} {g : Nat} {X : List Int} {k : Nat} (h : BInc V0 V (some ⟨g, 0, none⟩) X k) (hk : k < X.length) {x : Int} (hx : X[k]?.getD 0 = x) :
    BInc V0 (V.setCell ⟨g, k, none⟩ (.int .u8 (IntKind.u8.wrap (x + 1)))) (some ⟨g, 0, none⟩) X (k + 1) := by
  refine ⟨fun j hj => ?_, fun b o hb => ?_, fun b o => by rw [World.frozen?_setCell]; exact h.f b o, by simpa using h.s⟩
  · obtain ⟨g', e, c, f⟩ := h.c j hj
    injection e with e; injection e with e; subst e
    refine ⟨g, rfl, ?_, by rw [World.frozen?_setCell]; exact f⟩
    by_cases e : j = k
    · subst e
      rw [if_pos (by omega), hx]
      exact World.cell?_setCell_same' _ _ _ (by rw [c]; rfl)
    · rw [World.cell?_setCell_other _ _ _ _ (by intro e'; injection e' with e1 e2; omega), c]
      by_cases h1 : j < k
      · rw [if_pos h1, if_pos (by omega)]
      · rw [if_neg h1, if_neg (by omega)]
  · rw [World.cell?_setCell_other _ _ _ _ (by intro e'; injection e' with e1 e2; exact hb _ rfl (by intro e3; rw [e3] at hk; simp at hk) e1)]
    exact h.o b o hb
/-- .. over the values. -/
structure AInc (V0 V : World) (A1 : Option Addr) (U : List Val3) (k : Nat) : Prop where
  c : ∀ j, j < U.length → ∃ g, A1 = some ⟨g, 0, none⟩ ∧ V.cell? ⟨g, j * 3, none⟩ = some (.int .u8 (U[j]?.getD (0, 0, 0)).1) ∧
    V.cell? ⟨g, j * 3 + 1, none⟩ = some (.int .i64 (if j < k then wrap64 ((U[j]?.getD (0, 0, 0)).2.1 + 1) else (U[j]?.getD (0, 0, 0)).2.1)) ∧
    V.cell? ⟨g, j * 3 + 2, none⟩ = some (.int .i64 (U[j]?.getD (0, 0, 0)).2.2) ∧ V.frozen? ⟨g, j * 3 + 1, none⟩ = false
  o : ∀ b o, (∀ a : Addr, A1 = some a → U ≠ [] → a.block ≠ b) → V.cell? ⟨b, o, none⟩ = V0.cell? ⟨b, o, none⟩
  f : ∀ b o, V.frozen? ⟨b, o, none⟩ = V0.frozen? ⟨b, o, none⟩
  s : V.heap.size = V0.heap.size
theorem AInc.zero {B0 : Nat} {V : World} {A1 : Option Addr} {U : List Val3} (h : FreshIn B0 V A1 (valCells U)) : AInc V V A1 U 0 :=
  ⟨fun j hj => by
    obtain ⟨b, e, -, -, c0, -⟩ := h (j * 3 + 0) (by rw [valCells_length]; omega)
    obtain ⟨b1, e1, -, -, c1, f1⟩ := h (j * 3 + 1) (by rw [valCells_length]; omega)
    obtain ⟨b2, e2, -, -, c2, -⟩ := h (j * 3 + 2) (by rw [valCells_length]; omega)
    rw [e] at e1 e2
    injection e1 with e1; injection e1 with e1
    injection e2 with e2; injection e2 with e2
    subst e1 e2
    rw [valCells_get U j _ hj (by omega)] at c0 c1 c2
    exact ⟨b, e, c0, by rw [if_neg (by omega)]; exact c1, c2, f1⟩, fun _ _ _ => rfl, fun _ _ => rfl, rfl⟩
theorem AInc.step {V0 V : World} {g : Nat} {U : List Val3} {k : Nat} (h : AInc V0 V (some ⟨g, 0, none⟩) U k) (hk : k < U.length) {x : Int} (hx : (U[k]?.getD (0, 0, 0)).2.1 = x) :
    AInc V0 (V.setCell ⟨g, k * 3 + 1, none⟩ (.int .i64 (wrap64 (x + 1)))) (some ⟨g, 0, none⟩) U (k + 1) := by
  refine ⟨fun j hj => ?_, fun b o hb => ?_, fun b o => by rw [World.frozen?_setCell]; exact h.f b o, by simpa using h.s⟩
  · obtain ⟨g', e, c0, c1, c2, f⟩ := h.c j hj
    injection e with e; injection e with e; subst e
    refine ⟨g, rfl, ?_, ?_, ?_, by rw [World.frozen?_setCell]; exact f⟩
    · rw [World.cell?_setCell_other _ _ _ _ (by intro e'; injection e' with e1 e2; omega), c0]
    · by_cases e : j = k
      · subst e
        rw [if_pos (by omega), hx]
        exact World.cell?_setCell_same' _ _ _ (by rw [c1]; rfl)
      · rw [World.cell?_setCell_other _ _ _ _ (by intro e'; injection e' with e1 e2; omega), c1]
        by_cases h1 : j < k
        · rw [if_pos h1, if_pos (by omega)]
        · rw [if_neg h1, if_neg (by omega)]
    · rw [World.cell?_setCell_other _ _ _ _ (by intro e'; injection e' with e1 e2; omega), c2]
  · rw [World.cell?_setCell_other _ _ _ _ (by intro e'; injection e' with e1 e2; exact hb _ rfl (by intro e3; rw [e3] at hk; simp at hk) e1)]
    exact h.o b o hb

theorem OpOwn.opAt {B0 : Nat} {W W0 : World} {A B WA WB : Option Addr} {M N : Nat} {U : List Val3} {X : List Int} (h : OpOwn B0 W A B (valCells U) (byteCells X)) (hw : OpAt W0 WA M WB N U X) : OpAt W A M B N U X := by
  refine ⟨fun e => ?_, fun e => ?_, hw.lu, hw.lx, hw.ma, hw.mb, h.ca.vals, h.cb.bytes, hw.rx⟩
  · rcases Nat.eq_zero_or_pos M with h0 | h0
    · exact h0
    · obtain ⟨g, e2, -⟩ := h.ca 0 (by rw [valCells_length, hw.lu]; omega)
      rw [e] at e2
      cases e2
  · rcases Nat.eq_zero_or_pos N with h0 | h0
    · exact h0
    · obtain ⟨g, e2, -⟩ := h.cb 0 (by rw [byteCells_length, hw.lx]; omega)
      rw [e] at e2
      cases e2
theorem sameEnt_self (a b c d : Int) (U : List Val3) (X : List Int) : sameEntB a b c d a b c d U U X X = true := by simp [sameEntB, sameOpB]

def incX (X : List Int) : List Int := X.map fun x => IntKind.u8.wrap (x + 1)
def incU (U : List Val3) : List Val3 := U.map fun v => (v.1, wrap64 (v.2.1 + 1), v.2.2)
theorem wrap8_is (n : Int) : IntKind.u8.wrap n = n % 256 := rfl
theorem wrap8_ne (x : Int) (h0 : 0 ≤ x) (h1 : x ≤ 255) : IntKind.u8.wrap (x + 1) ≠ x ∧ 0 ≤ IntKind.u8.wrap (x + 1) ∧ IntKind.u8.wrap (x + 1) ≤ 255 := by
  rw [wrap8_is]
  omega
theorem wrap64_ne (x : Int) : wrap64 (x + 1) ≠ x := by
  unfold wrap64
  omega
theorem incX_ne {X : List Int} (hr : ∀ b ∈ X, 0 ≤ b ∧ b ≤ 255) (h : incX X = X) : X = [] := by
  cases X with
  | nil => rfl
  | cons x xs =>
    simp only [incX, List.map_cons, List.cons.injEq] at h
    have := hr x List.mem_cons_self
    exact absurd h.1 (wrap8_ne x this.1 this.2).1
theorem incU_ne {U : List Val3} (h : incU U = U) : U = [] := by
  cases U with
  | nil => rfl
  | cons x xs =>
    obtain ⟨a, b, c⟩ := x
    simp only [incU, List.map_cons, List.cons.injEq, Prod.mk.injEq] at h
    exact absurd h.1.2.1 (wrap64_ne b)
theorem incSame (a b c d : Int) {U : List Val3} {X : List Int} (hr : ∀ b ∈ X, 0 ≤ b ∧ b ≤ 255) (hn : ¬ (U.length = 0 ∧ X.length = 0)) : sameEntB a b c d a b c d (incU U) U (incX X) X = false := by
  unfold sameEntB sameOpB
  simp only [decide_true, Bool.true_and, Bool.and_eq_false_iff, decide_eq_false_iff_not]
  rcases Nat.eq_zero_or_pos U.length with h0 | h0
  · refine .inr (fun e => hn ⟨h0, ?_⟩)
    rw [incX_ne hr e]; rfl
  · refine .inl (fun e => ?_)
    rw [incU_ne e] at h0
    simp at h0
theorem incX_at (X : List Int) (j : Nat) (hj : j < X.length) : (incX X)[j]?.getD 0 = IntKind.u8.wrap (X[j]?.getD 0 + 1) := by
  unfold incX
  rw [List.getElem?_map, List.getElem?_eq_getElem hj]
  rfl
theorem incU_at (U : List Val3) (j : Nat) (hj : j < U.length) : (incU U)[j]?.getD (0, 0, 0) = ((U[j]?.getD (0, 0, 0)).1, wrap64 ((U[j]?.getD (0, 0, 0)).2.1 + 1), (U[j]?.getD (0, 0, 0)).2.2) := by
  unfold incU
  rw [List.getElem?_map, List.getElem?_eq_getElem hj]
  rfl
theorem inc_opAt {V8 V9 V W0 : World} {A B WA WB : Option Addr} {M N : Nat} {U : List Val3} {X : List Int} (h8 : OpAt W0 A M B N U X) (hb : BInc V8 V9 B X N) (ha : AInc V9 V A U M)
    (hap : ∀ a b : Addr, A = some a → B = some b → U ≠ [] → X ≠ [] → a.block ≠ b.block) : OpAt V A M B N (incU U) (incX X) := by
  refine ⟨h8.na, h8.nb, by rw [incU, List.length_map, h8.lu], by rw [incX, List.length_map, h8.lx], h8.ma, h8.mb, fun j hj => ?_, fun j hj => ?_, fun b hb' => ?_⟩
  · rw [incU, List.length_map] at hj
    obtain ⟨g, e, c0, c1, c2, -⟩ := ha.c j hj
    rw [incU_at U j hj]
    rw [if_pos (by rw [← h8.lu]; exact hj)] at c1
    exact ⟨g, 0, e, by rw [Nat.zero_add]; exact c0, by rw [Nat.zero_add]; exact c1, by rw [Nat.zero_add]; exact c2⟩
  · rw [incX, List.length_map] at hj
    obtain ⟨g, e, c, -⟩ := hb.c j hj
    rw [incX_at X j hj]
    rw [if_pos (by rw [← h8.lx]; exact hj)] at c
    refine ⟨g, 0, e, ?_⟩
    rw [Nat.zero_add]
    have hx : X ≠ [] := by intro e2; rw [e2] at hj; simp at hj
    exact (ha.o g j (fun a ha' hu => hap a _ ha' e hu hx)).trans c
  · obtain ⟨x, hx, rfl⟩ := List.mem_map.1 hb'
    have := h8.rx x hx
    exact (wrap8_ne x this.1 this.2).2
theorem inc_blk {V8 V9 V : World} {A B : Option Addr} {M N b : Nat} {U : List Val3} {X : List Int} {vs : List Value} (h : Blk V8 b vs) (hb : BInc V8 V9 B X N) (ha : AInc V9 V A U M)
    (h1 : ∀ a : Addr, A = some a → U ≠ [] → a.block ≠ b) (h2 : ∀ a : Addr, B = some a → X ≠ [] → a.block ≠ b) : Blk V b vs :=
  ⟨fun j v hj => (ha.o b j h1).trans ((hb.o b j h2).trans (h.c j v hj)), fun o => (ha.f b o).trans ((hb.f b o).trans (h.f o)), by rw [ha.s, hb.s]; exact h.l⟩

set_option maxRecDepth 100000 in
set_option maxHeartbeats 4000000 in
theorem tells_g1 (i n p q pr sq k me s ak ame : Int) (A B AA AB Z : Option Addr) (m ca nb cb am aca an acb cz : Nat) (zl : Nat) (w : World) (h : greatB m nb = true) :
    Calls Try.prog 7 #[.int .i64 i, .int .i64 n, .int .i64 p, .int .i64 q, .agg #[.int .i64 pr, .int .i64 sq, .int .u8 k, .int .i64 me, .slice A m ca, .slice B nb cb], .agg #[.int .i64 s, .int .u8 ak, .int .i64 ame, .slice AA am aca, .slice AB an acb], .slice Z zl cz] w fun e w' => e = .returned (.bool true) ∧ Below w.heap.size w w' := by
  go_enter Try.func7, Try.ntmps7
  go_wp2_with fail
  obtain ⟨W, hW⟩ : ∃ W, (w.alloc (.cells #[.int .i64 pr, .int .i64 sq, .int .u8 k, .int .i64 me, .slice A m ca, .slice B nb cb] 58)).alloc (.cells #[.int .i64 s, .int .u8 ak, .int .i64 ame, .slice AA am aca, .slice AB an acb] 60) = W := ⟨_, rfl⟩
  have hBW : Below w.heap.size w W := by rw [← hW]; go_grown
  have e0 : Blk W w.heap.size [.int .i64 pr, .int .i64 sq, .int .u8 k, .int .i64 me, .slice A m ca, .slice B nb cb] := by rw [← hW]; exact (Blk.new w _ _).alloc _
  have e1 : Blk W (w.heap.size + 1) [.int .i64 s, .int .u8 ak, .int .i64 ame, .slice AA am aca, .slice AB an acb] := by
    rw [← hW]
    have := Blk.new (w.alloc (.cells #[.int .i64 pr, .int .i64 sq, .int .u8 k, .int .i64 me, .slice A m ca, .slice B nb cb] 58)) #[.int .i64 s, .int .u8 ak, .int .i64 ame, .slice AA am aca, .slice AB an acb] 60
    simpa using this
  rw [hW]
  clear hW
  have d0 : W.cell? ⟨w.heap.size, 0, none⟩ = some (.int .i64 pr) := e0.c 0 _ rfl
  have d1 : W.cell? ⟨w.heap.size, 1, none⟩ = some (.int .i64 sq) := e0.c 1 _ rfl
  have d2 : W.cell? ⟨w.heap.size, 2, none⟩ = some (.int .u8 k) := e0.c 2 _ rfl
  have d3 : W.cell? ⟨w.heap.size, 3, none⟩ = some (.int .i64 me) := e0.c 3 _ rfl
  have d4 : W.cell? ⟨w.heap.size, 4, none⟩ = some (.slice A m ca) := e0.c 4 _ rfl
  have d5 : W.cell? ⟨w.heap.size, 5, none⟩ = some (.slice B nb cb) := e0.c 5 _ rfl
  have a0 : W.cell? ⟨w.heap.size + 1, 0, none⟩ = some (.int .i64 s) := e1.c 0 _ rfl
  have a1 : W.cell? ⟨w.heap.size + 1, 1, none⟩ = some (.int .u8 ak) := e1.c 1 _ rfl
  have a2 : W.cell? ⟨w.heap.size + 1, 2, none⟩ = some (.int .i64 ame) := e1.c 2 _ rfl
  have a3 : W.cell? ⟨w.heap.size + 1, 3, none⟩ = some (.slice AA am aca) := e1.c 3 _ rfl
  have a4 : W.cell? ⟨w.heap.size + 1, 4, none⟩ = some (.slice AB an acb) := e1.c 4 _ rfl
  go_wp2_with fail
  refine (great_any k me A B m ca nb cb _).mono ?_
  rw [h]
  rintro e w2 ⟨rfl, hb⟩
  have e0' := e0.below hb
  have e1' := e1.below hb
  have hBw2 : Below w.heap.size w w2 := below_next hBW hb
  clear hb e0 e1
  clear d0 d1 d2 d3 d4 d5
  clear a0 a1 a2 a3 a4
  have e0 := e0'
  have e1 := e1'
  clear e0' e1'
  have d0 : w2.cell? ⟨w.heap.size, 0, none⟩ = some (.int .i64 pr) := e0.c 0 _ rfl
  have d1 : w2.cell? ⟨w.heap.size, 1, none⟩ = some (.int .i64 sq) := e0.c 1 _ rfl
  have d2 : w2.cell? ⟨w.heap.size, 2, none⟩ = some (.int .u8 k) := e0.c 2 _ rfl
  have d3 : w2.cell? ⟨w.heap.size, 3, none⟩ = some (.int .i64 me) := e0.c 3 _ rfl
  have d4 : w2.cell? ⟨w.heap.size, 4, none⟩ = some (.slice A m ca) := e0.c 4 _ rfl
  have d5 : w2.cell? ⟨w.heap.size, 5, none⟩ = some (.slice B nb cb) := e0.c 5 _ rfl
  have a0 : w2.cell? ⟨w.heap.size + 1, 0, none⟩ = some (.int .i64 s) := e1.c 0 _ rfl
  have a1 : w2.cell? ⟨w.heap.size + 1, 1, none⟩ = some (.int .u8 ak) := e1.c 1 _ rfl
  have a2 : w2.cell? ⟨w.heap.size + 1, 2, none⟩ = some (.int .i64 ame) := e1.c 2 _ rfl
  have a3 : w2.cell? ⟨w.heap.size + 1, 3, none⟩ = some (.slice AA am aca) := e1.c 3 _ rfl
  have a4 : w2.cell? ⟨w.heap.size + 1, 4, none⟩ = some (.slice AB an acb) := e1.c 4 _ rfl
  go_wp2_with fail
  go_ret
  exact ⟨rfl, hBw2⟩

set_option maxRecDepth 100000 in
set_option maxHeartbeats 4000000 in
theorem tells_g2 (i n p q pr sq k me s ak ame : Int) (A B AA AB Z : Option Addr) (m ca nb cb am aca an acb cz : Nat) (zl : Nat) (w : World) (h : greatB m nb = false) (h2 : greatB am an = true) :
    Calls Try.prog 7 #[.int .i64 i, .int .i64 n, .int .i64 p, .int .i64 q, .agg #[.int .i64 pr, .int .i64 sq, .int .u8 k, .int .i64 me, .slice A m ca, .slice B nb cb], .agg #[.int .i64 s, .int .u8 ak, .int .i64 ame, .slice AA am aca, .slice AB an acb], .slice Z zl cz] w fun e w' => e = .returned (.bool true) ∧ Below w.heap.size w w' := by
  go_enter Try.func7, Try.ntmps7
  go_wp2_with fail
  obtain ⟨W, hW⟩ : ∃ W, (w.alloc (.cells #[.int .i64 pr, .int .i64 sq, .int .u8 k, .int .i64 me, .slice A m ca, .slice B nb cb] 58)).alloc (.cells #[.int .i64 s, .int .u8 ak, .int .i64 ame, .slice AA am aca, .slice AB an acb] 60) = W := ⟨_, rfl⟩
  have hBW : Below w.heap.size w W := by rw [← hW]; go_grown
  have e0 : Blk W w.heap.size [.int .i64 pr, .int .i64 sq, .int .u8 k, .int .i64 me, .slice A m ca, .slice B nb cb] := by rw [← hW]; exact (Blk.new w _ _).alloc _
  have e1 : Blk W (w.heap.size + 1) [.int .i64 s, .int .u8 ak, .int .i64 ame, .slice AA am aca, .slice AB an acb] := by
    rw [← hW]
    have := Blk.new (w.alloc (.cells #[.int .i64 pr, .int .i64 sq, .int .u8 k, .int .i64 me, .slice A m ca, .slice B nb cb] 58)) #[.int .i64 s, .int .u8 ak, .int .i64 ame, .slice AA am aca, .slice AB an acb] 60
    simpa using this
  rw [hW]
  clear hW
  have d0 : W.cell? ⟨w.heap.size, 0, none⟩ = some (.int .i64 pr) := e0.c 0 _ rfl
  have d1 : W.cell? ⟨w.heap.size, 1, none⟩ = some (.int .i64 sq) := e0.c 1 _ rfl
  have d2 : W.cell? ⟨w.heap.size, 2, none⟩ = some (.int .u8 k) := e0.c 2 _ rfl
  have d3 : W.cell? ⟨w.heap.size, 3, none⟩ = some (.int .i64 me) := e0.c 3 _ rfl
  have d4 : W.cell? ⟨w.heap.size, 4, none⟩ = some (.slice A m ca) := e0.c 4 _ rfl
  have d5 : W.cell? ⟨w.heap.size, 5, none⟩ = some (.slice B nb cb) := e0.c 5 _ rfl
  have a0 : W.cell? ⟨w.heap.size + 1, 0, none⟩ = some (.int .i64 s) := e1.c 0 _ rfl
  have a1 : W.cell? ⟨w.heap.size + 1, 1, none⟩ = some (.int .u8 ak) := e1.c 1 _ rfl
  have a2 : W.cell? ⟨w.heap.size + 1, 2, none⟩ = some (.int .i64 ame) := e1.c 2 _ rfl
  have a3 : W.cell? ⟨w.heap.size + 1, 3, none⟩ = some (.slice AA am aca) := e1.c 3 _ rfl
  have a4 : W.cell? ⟨w.heap.size + 1, 4, none⟩ = some (.slice AB an acb) := e1.c 4 _ rfl
  go_wp2_with fail
  refine (great_any k me A B m ca nb cb _).mono ?_
  rw [h]
  rintro e w2 ⟨rfl, hb⟩
  have e0' := e0.below hb
  have e1' := e1.below hb
  have hBw2 : Below w.heap.size w w2 := below_next hBW hb
  clear hb e0 e1
  clear d0 d1 d2 d3 d4 d5
  clear a0 a1 a2 a3 a4
  have e0 := e0'
  have e1 := e1'
  clear e0' e1'
  have d0 : w2.cell? ⟨w.heap.size, 0, none⟩ = some (.int .i64 pr) := e0.c 0 _ rfl
  have d1 : w2.cell? ⟨w.heap.size, 1, none⟩ = some (.int .i64 sq) := e0.c 1 _ rfl
  have d2 : w2.cell? ⟨w.heap.size, 2, none⟩ = some (.int .u8 k) := e0.c 2 _ rfl
  have d3 : w2.cell? ⟨w.heap.size, 3, none⟩ = some (.int .i64 me) := e0.c 3 _ rfl
  have d4 : w2.cell? ⟨w.heap.size, 4, none⟩ = some (.slice A m ca) := e0.c 4 _ rfl
  have d5 : w2.cell? ⟨w.heap.size, 5, none⟩ = some (.slice B nb cb) := e0.c 5 _ rfl
  have a0 : w2.cell? ⟨w.heap.size + 1, 0, none⟩ = some (.int .i64 s) := e1.c 0 _ rfl
  have a1 : w2.cell? ⟨w.heap.size + 1, 1, none⟩ = some (.int .u8 ak) := e1.c 1 _ rfl
  have a2 : w2.cell? ⟨w.heap.size + 1, 2, none⟩ = some (.int .i64 ame) := e1.c 2 _ rfl
  have a3 : w2.cell? ⟨w.heap.size + 1, 3, none⟩ = some (.slice AA am aca) := e1.c 3 _ rfl
  have a4 : w2.cell? ⟨w.heap.size + 1, 4, none⟩ = some (.slice AB an acb) := e1.c 4 _ rfl
  go_wp2_with fail
  refine (great_any ak ame AA AB am aca an acb _).mono ?_
  rw [h2]
  rintro e w3 ⟨rfl, hb⟩
  have e0' := e0.below hb
  have e1' := e1.below hb
  have hBw3 : Below w.heap.size w w3 := below_next hBw2 hb
  clear hb e0 e1
  clear d0 d1 d2 d3 d4 d5
  clear a0 a1 a2 a3 a4
  have e0 := e0'
  have e1 := e1'
  clear e0' e1'
  have d0 : w3.cell? ⟨w.heap.size, 0, none⟩ = some (.int .i64 pr) := e0.c 0 _ rfl
  have d1 : w3.cell? ⟨w.heap.size, 1, none⟩ = some (.int .i64 sq) := e0.c 1 _ rfl
  have d2 : w3.cell? ⟨w.heap.size, 2, none⟩ = some (.int .u8 k) := e0.c 2 _ rfl
  have d3 : w3.cell? ⟨w.heap.size, 3, none⟩ = some (.int .i64 me) := e0.c 3 _ rfl
  have d4 : w3.cell? ⟨w.heap.size, 4, none⟩ = some (.slice A m ca) := e0.c 4 _ rfl
  have d5 : w3.cell? ⟨w.heap.size, 5, none⟩ = some (.slice B nb cb) := e0.c 5 _ rfl
  have a0 : w3.cell? ⟨w.heap.size + 1, 0, none⟩ = some (.int .i64 s) := e1.c 0 _ rfl
  have a1 : w3.cell? ⟨w.heap.size + 1, 1, none⟩ = some (.int .u8 ak) := e1.c 1 _ rfl
  have a2 : w3.cell? ⟨w.heap.size + 1, 2, none⟩ = some (.int .i64 ame) := e1.c 2 _ rfl
  have a3 : w3.cell? ⟨w.heap.size + 1, 3, none⟩ = some (.slice AA am aca) := e1.c 3 _ rfl
  have a4 : w3.cell? ⟨w.heap.size + 1, 4, none⟩ = some (.slice AB an acb) := e1.c 4 _ rfl
  go_wp2_with fail
  go_ret
  exact ⟨rfl, hBw3⟩

set_option maxRecDepth 100000 in
set_option maxHeartbeats 4000000 in
theorem tells_g3 (i n p q pr sq k me s ak ame : Int) (A B AA AB Z : Option Addr) (m ca nb cb am aca an acb cz : Nat) (zl : Nat) (w : World) (h : greatB m nb = false) (h2 : greatB am an = false) (h3 : 80 < (zl : Int)) :
    Calls Try.prog 7 #[.int .i64 i, .int .i64 n, .int .i64 p, .int .i64 q, .agg #[.int .i64 pr, .int .i64 sq, .int .u8 k, .int .i64 me, .slice A m ca, .slice B nb cb], .agg #[.int .i64 s, .int .u8 ak, .int .i64 ame, .slice AA am aca, .slice AB an acb], .slice Z zl cz] w fun e w' => e = .returned (.bool true) ∧ Below w.heap.size w w' := by
  go_enter Try.func7, Try.ntmps7
  go_wp2_with fail
  obtain ⟨W, hW⟩ : ∃ W, (w.alloc (.cells #[.int .i64 pr, .int .i64 sq, .int .u8 k, .int .i64 me, .slice A m ca, .slice B nb cb] 58)).alloc (.cells #[.int .i64 s, .int .u8 ak, .int .i64 ame, .slice AA am aca, .slice AB an acb] 60) = W := ⟨_, rfl⟩
  have hBW : Below w.heap.size w W := by rw [← hW]; go_grown
  have e0 : Blk W w.heap.size [.int .i64 pr, .int .i64 sq, .int .u8 k, .int .i64 me, .slice A m ca, .slice B nb cb] := by rw [← hW]; exact (Blk.new w _ _).alloc _
  have e1 : Blk W (w.heap.size + 1) [.int .i64 s, .int .u8 ak, .int .i64 ame, .slice AA am aca, .slice AB an acb] := by
    rw [← hW]
    have := Blk.new (w.alloc (.cells #[.int .i64 pr, .int .i64 sq, .int .u8 k, .int .i64 me, .slice A m ca, .slice B nb cb] 58)) #[.int .i64 s, .int .u8 ak, .int .i64 ame, .slice AA am aca, .slice AB an acb] 60
    simpa using this
  rw [hW]
  clear hW
  have d0 : W.cell? ⟨w.heap.size, 0, none⟩ = some (.int .i64 pr) := e0.c 0 _ rfl
  have d1 : W.cell? ⟨w.heap.size, 1, none⟩ = some (.int .i64 sq) := e0.c 1 _ rfl
  have d2 : W.cell? ⟨w.heap.size, 2, none⟩ = some (.int .u8 k) := e0.c 2 _ rfl
  have d3 : W.cell? ⟨w.heap.size, 3, none⟩ = some (.int .i64 me) := e0.c 3 _ rfl
  have d4 : W.cell? ⟨w.heap.size, 4, none⟩ = some (.slice A m ca) := e0.c 4 _ rfl
  have d5 : W.cell? ⟨w.heap.size, 5, none⟩ = some (.slice B nb cb) := e0.c 5 _ rfl
  have a0 : W.cell? ⟨w.heap.size + 1, 0, none⟩ = some (.int .i64 s) := e1.c 0 _ rfl
  have a1 : W.cell? ⟨w.heap.size + 1, 1, none⟩ = some (.int .u8 ak) := e1.c 1 _ rfl
  have a2 : W.cell? ⟨w.heap.size + 1, 2, none⟩ = some (.int .i64 ame) := e1.c 2 _ rfl
  have a3 : W.cell? ⟨w.heap.size + 1, 3, none⟩ = some (.slice AA am aca) := e1.c 3 _ rfl
  have a4 : W.cell? ⟨w.heap.size + 1, 4, none⟩ = some (.slice AB an acb) := e1.c 4 _ rfl
  go_wp2_with fail
  refine (great_any k me A B m ca nb cb _).mono ?_
  rw [h]
  rintro e w2 ⟨rfl, hb⟩
  have e0' := e0.below hb
  have e1' := e1.below hb
  have hBw2 : Below w.heap.size w w2 := below_next hBW hb
  clear hb e0 e1
  clear d0 d1 d2 d3 d4 d5
  clear a0 a1 a2 a3 a4
  have e0 := e0'
  have e1 := e1'
  clear e0' e1'
  have d0 : w2.cell? ⟨w.heap.size, 0, none⟩ = some (.int .i64 pr) := e0.c 0 _ rfl
  have d1 : w2.cell? ⟨w.heap.size, 1, none⟩ = some (.int .i64 sq) := e0.c 1 _ rfl
  have d2 : w2.cell? ⟨w.heap.size, 2, none⟩ = some (.int .u8 k) := e0.c 2 _ rfl
  have d3 : w2.cell? ⟨w.heap.size, 3, none⟩ = some (.int .i64 me) := e0.c 3 _ rfl
  have d4 : w2.cell? ⟨w.heap.size, 4, none⟩ = some (.slice A m ca) := e0.c 4 _ rfl
  have d5 : w2.cell? ⟨w.heap.size, 5, none⟩ = some (.slice B nb cb) := e0.c 5 _ rfl
  have a0 : w2.cell? ⟨w.heap.size + 1, 0, none⟩ = some (.int .i64 s) := e1.c 0 _ rfl
  have a1 : w2.cell? ⟨w.heap.size + 1, 1, none⟩ = some (.int .u8 ak) := e1.c 1 _ rfl
  have a2 : w2.cell? ⟨w.heap.size + 1, 2, none⟩ = some (.int .i64 ame) := e1.c 2 _ rfl
  have a3 : w2.cell? ⟨w.heap.size + 1, 3, none⟩ = some (.slice AA am aca) := e1.c 3 _ rfl
  have a4 : w2.cell? ⟨w.heap.size + 1, 4, none⟩ = some (.slice AB an acb) := e1.c 4 _ rfl
  go_wp2_with fail
  refine (great_any ak ame AA AB am aca an acb _).mono ?_
  rw [h2]
  rintro e w3 ⟨rfl, hb⟩
  have e0' := e0.below hb
  have e1' := e1.below hb
  have hBw3 : Below w.heap.size w w3 := below_next hBw2 hb
  clear hb e0 e1
  clear d0 d1 d2 d3 d4 d5
  clear a0 a1 a2 a3 a4
  have e0 := e0'
  have e1 := e1'
  clear e0' e1'
  have d0 : w3.cell? ⟨w.heap.size, 0, none⟩ = some (.int .i64 pr) := e0.c 0 _ rfl
  have d1 : w3.cell? ⟨w.heap.size, 1, none⟩ = some (.int .i64 sq) := e0.c 1 _ rfl
  have d2 : w3.cell? ⟨w.heap.size, 2, none⟩ = some (.int .u8 k) := e0.c 2 _ rfl
  have d3 : w3.cell? ⟨w.heap.size, 3, none⟩ = some (.int .i64 me) := e0.c 3 _ rfl
  have d4 : w3.cell? ⟨w.heap.size, 4, none⟩ = some (.slice A m ca) := e0.c 4 _ rfl
  have d5 : w3.cell? ⟨w.heap.size, 5, none⟩ = some (.slice B nb cb) := e0.c 5 _ rfl
  have a0 : w3.cell? ⟨w.heap.size + 1, 0, none⟩ = some (.int .i64 s) := e1.c 0 _ rfl
  have a1 : w3.cell? ⟨w.heap.size + 1, 1, none⟩ = some (.int .u8 ak) := e1.c 1 _ rfl
  have a2 : w3.cell? ⟨w.heap.size + 1, 2, none⟩ = some (.int .i64 ame) := e1.c 2 _ rfl
  have a3 : w3.cell? ⟨w.heap.size + 1, 3, none⟩ = some (.slice AA am aca) := e1.c 3 _ rfl
  have a4 : w3.cell? ⟨w.heap.size + 1, 4, none⟩ = some (.slice AB an acb) := e1.c 4 _ rfl
  go_wp2_with fail
  go_ret
  exact ⟨rfl, hBw3⟩

set_option maxRecDepth 100000 in
set_option maxHeartbeats 8000000 in
theorem tells_core (i n p q pr sq k me s ak ame : Int) (A B AA AB Z : Option Addr) (m ca nb cb am aca an acb cz : Nat) (zs : List Int) (w : World) (i1 : -9223372036854775808 ≤ i) (i2 : i ≤ 9223372036854775807) (h : greatB m nb = false) (h2 : greatB am an = false) (hz : zs.length ≤ 80) (hI : IntsAt w.heap.size w Z zs)
    (PR SQ K ME : Int) (WA WB : Option Addr) (M wca NB wcb : Nat) (U : List Val3) (X : List Int)
    (href : ∀ W, Below w.heap.size w W → Calls Try.prog 32 #[.int .i64 i, .agg #[.int .i64 pr, .int .i64 sq, .int .u8 k, .int .i64 me, .slice A m ca, .slice B nb cb], .agg #[.int .i64 s, .int .u8 ak, .int .i64 ame, .slice AA am aca, .slice AB an acb], .slice Z zs.length cz] W fun e w' => e = .returned (.agg #[.int .i64 PR, .int .i64 SQ, .int .u8 K, .int .i64 ME, .slice WA M wca, .slice WB NB wcb]) ∧ Below W.heap.size W w')
    (hpick : ∀ W, Below w.heap.size w W → Calls Try.prog 33 #[.int .i64 i, .agg #[.int .i64 pr, .int .i64 sq, .int .u8 k, .int .i64 me, .slice A m ca, .slice B nb cb], .agg #[.int .i64 s, .int .u8 ak, .int .i64 ame, .slice AA am aca, .slice AB an acb], .slice Z zs.length cz] W fun e w' => Picked W PR SQ K ME M NB (valCells U) (byteCells X) e w')
    (hwant : OpHas w WA M WB NB U X) :
    Calls Try.prog 7 #[.int .i64 i, .int .i64 n, .int .i64 p, .int .i64 q, .agg #[.int .i64 pr, .int .i64 sq, .int .u8 k, .int .i64 me, .slice A m ca, .slice B nb cb], .agg #[.int .i64 s, .int .u8 ak, .int .i64 ame, .slice AA am aca, .slice AB an acb], .slice Z zs.length cz] w fun e w' => e = .returned (.bool true) ∧ Below w.heap.size w w' := by
  have hzl : (zs.length : Int) ≤ 80 := by omega
  have hpe : ∀ W, Below w.heap.size w W → Calls Try.prog 30 #[.agg #[.int .i64 s, .int .u8 ak, .int .i64 ame, .slice AA am aca, .slice AB an acb], .int .i64 q, .slice Z zs.length cz] W fun e w' =>
      e = .returned (.bool (pendB s q zs)) ∧ Below W.heap.size W w' := fun W hW => pending_any s ak ame q AA AB am aca an acb Z cz zs (by omega) W (fun j hj => by
        obtain ⟨b, off, h1, h2, h3⟩ := hI j hj
        exact ⟨b, off, h1, Nat.lt_of_lt_of_le h2 hW.size, (hW.cell (p := ⟨b, off + j, none⟩) h2).trans h3⟩)
  have hrpe : ∀ W, Below w.heap.size w W → Calls Try.prog 31 #[.agg #[.int .i64 s, .int .u8 ak, .int .i64 ame, .slice AA am aca, .slice AB an acb], .int .i64 q, .slice Z zs.length cz] W fun e w' =>
      e = .returned (.bool (pendB s q zs)) ∧ Below W.heap.size W w' := fun W hW => refPending_any s ak ame q AA AB am aca an acb Z cz zs (by omega) W (fun j hj => by
        obtain ⟨b, off, h1, h2, h3⟩ := hI j hj
        exact ⟨b, off, h1, Nat.lt_of_lt_of_le h2 hW.size, (hW.cell (p := ⟨b, off + j, none⟩) h2).trans h3⟩)
  have hrw := fun W => refWhose_any i n W i1 i2
  have hwh := fun W => whose_any i n W i1 i2
  have hhe := fun W => helps_any i n p W i1 i2
  obtain ⟨W0, hW0⟩ : ∃ W0, whoseI i n = W0 := ⟨_, rfl⟩
  obtain ⟨b1, hb1⟩ : ∃ b1, helpsB i n p = b1 := ⟨_, rfl⟩
  obtain ⟨b0, hb0⟩ : ∃ b0, pendB s q zs = b0 := ⟨_, rfl⟩
  rw [hW0] at hrw hwh hhe
  rw [hb1] at hhe
  rw [hb0] at hpe hrpe
  have HB1 : Hid ((decide (0 ≤ W0) && !decide (W0 = p)) = b1) := by
    apply Lib.hid
    rw [← hW0, ← hb1]
    rfl
  clear hW0 hb1 hb0
  have HREF := Lib.hid href
  have HPICK := Lib.hid hpick
  have HWANT := Lib.hid hwant
  have HPE := Lib.hid hpe
  have HRPE := Lib.hid hrpe
  have HRW := Lib.hid hrw
  have HWH := Lib.hid hwh
  have HHE := Lib.hid hhe
  have HZ := Lib.hid hz
  clear href hpick hwant hpe hrpe hrw hwh hhe hz hI
  go_enter Try.func7, Try.ntmps7
  go_wp2_with fail
  obtain ⟨W, hW⟩ : ∃ W, (w.alloc (.cells #[.int .i64 pr, .int .i64 sq, .int .u8 k, .int .i64 me, .slice A m ca, .slice B nb cb] 58)).alloc (.cells #[.int .i64 s, .int .u8 ak, .int .i64 ame, .slice AA am aca, .slice AB an acb] 60) = W := ⟨_, rfl⟩
  have hBW : Below w.heap.size w W := by rw [← hW]; go_grown
  have e0 : Blk W w.heap.size [.int .i64 pr, .int .i64 sq, .int .u8 k, .int .i64 me, .slice A m ca, .slice B nb cb] := by rw [← hW]; exact (Blk.new w _ _).alloc _
  have e1 : Blk W (w.heap.size + 1) [.int .i64 s, .int .u8 ak, .int .i64 ame, .slice AA am aca, .slice AB an acb] := by
    rw [← hW]
    have := Blk.new (w.alloc (.cells #[.int .i64 pr, .int .i64 sq, .int .u8 k, .int .i64 me, .slice A m ca, .slice B nb cb] 58)) #[.int .i64 s, .int .u8 ak, .int .i64 ame, .slice AA am aca, .slice AB an acb] 60
    simpa using this
  rw [hW]
  clear hW
  have d0 : W.cell? ⟨w.heap.size, 0, none⟩ = some (.int .i64 pr) := e0.c 0 _ rfl
  have d1 : W.cell? ⟨w.heap.size, 1, none⟩ = some (.int .i64 sq) := e0.c 1 _ rfl
  have d2 : W.cell? ⟨w.heap.size, 2, none⟩ = some (.int .u8 k) := e0.c 2 _ rfl
  have d3 : W.cell? ⟨w.heap.size, 3, none⟩ = some (.int .i64 me) := e0.c 3 _ rfl
  have d4 : W.cell? ⟨w.heap.size, 4, none⟩ = some (.slice A m ca) := e0.c 4 _ rfl
  have d5 : W.cell? ⟨w.heap.size, 5, none⟩ = some (.slice B nb cb) := e0.c 5 _ rfl
  have a0 : W.cell? ⟨w.heap.size + 1, 0, none⟩ = some (.int .i64 s) := e1.c 0 _ rfl
  have a1 : W.cell? ⟨w.heap.size + 1, 1, none⟩ = some (.int .u8 ak) := e1.c 1 _ rfl
  have a2 : W.cell? ⟨w.heap.size + 1, 2, none⟩ = some (.int .i64 ame) := e1.c 2 _ rfl
  have a3 : W.cell? ⟨w.heap.size + 1, 3, none⟩ = some (.slice AA am aca) := e1.c 3 _ rfl
  have a4 : W.cell? ⟨w.heap.size + 1, 4, none⟩ = some (.slice AB an acb) := e1.c 4 _ rfl
  go_wp2_with fail
  refine (great_any k me A B m ca nb cb _).mono ?_
  rw [h]
  rintro e w2 ⟨rfl, hb⟩
  have e0' := e0.below hb
  have e1' := e1.below hb
  have hBw2 : Below w.heap.size w w2 := below_next hBW hb
  clear hb e0 e1
  clear d0 d1 d2 d3 d4 d5
  clear a0 a1 a2 a3 a4
  have e0 := e0'
  have e1 := e1'
  clear e0' e1'
  have d0 : w2.cell? ⟨w.heap.size, 0, none⟩ = some (.int .i64 pr) := e0.c 0 _ rfl
  have d1 : w2.cell? ⟨w.heap.size, 1, none⟩ = some (.int .i64 sq) := e0.c 1 _ rfl
  have d2 : w2.cell? ⟨w.heap.size, 2, none⟩ = some (.int .u8 k) := e0.c 2 _ rfl
  have d3 : w2.cell? ⟨w.heap.size, 3, none⟩ = some (.int .i64 me) := e0.c 3 _ rfl
  have d4 : w2.cell? ⟨w.heap.size, 4, none⟩ = some (.slice A m ca) := e0.c 4 _ rfl
  have d5 : w2.cell? ⟨w.heap.size, 5, none⟩ = some (.slice B nb cb) := e0.c 5 _ rfl
  have a0 : w2.cell? ⟨w.heap.size + 1, 0, none⟩ = some (.int .i64 s) := e1.c 0 _ rfl
  have a1 : w2.cell? ⟨w.heap.size + 1, 1, none⟩ = some (.int .u8 ak) := e1.c 1 _ rfl
  have a2 : w2.cell? ⟨w.heap.size + 1, 2, none⟩ = some (.int .i64 ame) := e1.c 2 _ rfl
  have a3 : w2.cell? ⟨w.heap.size + 1, 3, none⟩ = some (.slice AA am aca) := e1.c 3 _ rfl
  have a4 : w2.cell? ⟨w.heap.size + 1, 4, none⟩ = some (.slice AB an acb) := e1.c 4 _ rfl
  go_wp2_with fail
  refine (great_any ak ame AA AB am aca an acb _).mono ?_
  rw [h2]
  rintro e w3 ⟨rfl, hb⟩
  have e0' := e0.below hb
  have e1' := e1.below hb
  have hBw3 : Below w.heap.size w w3 := below_next hBw2 hb
  clear hb e0 e1
  clear d0 d1 d2 d3 d4 d5
  clear a0 a1 a2 a3 a4
  have e0 := e0'
  have e1 := e1'
  clear e0' e1'
  have d0 : w3.cell? ⟨w.heap.size, 0, none⟩ = some (.int .i64 pr) := e0.c 0 _ rfl
  have d1 : w3.cell? ⟨w.heap.size, 1, none⟩ = some (.int .i64 sq) := e0.c 1 _ rfl
  have d2 : w3.cell? ⟨w.heap.size, 2, none⟩ = some (.int .u8 k) := e0.c 2 _ rfl
  have d3 : w3.cell? ⟨w.heap.size, 3, none⟩ = some (.int .i64 me) := e0.c 3 _ rfl
  have d4 : w3.cell? ⟨w.heap.size, 4, none⟩ = some (.slice A m ca) := e0.c 4 _ rfl
  have d5 : w3.cell? ⟨w.heap.size, 5, none⟩ = some (.slice B nb cb) := e0.c 5 _ rfl
  have a0 : w3.cell? ⟨w.heap.size + 1, 0, none⟩ = some (.int .i64 s) := e1.c 0 _ rfl
  have a1 : w3.cell? ⟨w.heap.size + 1, 1, none⟩ = some (.int .u8 ak) := e1.c 1 _ rfl
  have a2 : w3.cell? ⟨w.heap.size + 1, 2, none⟩ = some (.int .i64 ame) := e1.c 2 _ rfl
  have a3 : w3.cell? ⟨w.heap.size + 1, 3, none⟩ = some (.slice AA am aca) := e1.c 3 _ rfl
  have a4 : w3.cell? ⟨w.heap.size + 1, 4, none⟩ = some (.slice AB an acb) := e1.c 4 _ rfl
  go_upto_region 5 with (first | (go_at_call 27; refine (HRW.out _).mono ?_; rintro e w' ⟨rfl, hq⟩; have hq2 := hq.symm; clear hq; subst hq2) | (go_at_call 28; refine (HHE.out _).mono ?_; rintro e w' ⟨rfl, hq⟩; have hq2 := hq.symm; clear hq; subst hq2) | fail)
  go_cut [77] (fun s77 wx => s77 = .bool false ∧ Below w3.heap.size w3 wx)
  case first =>
    as_aux_lemma =>
      clear e0 d0 d1 d2 d3 d4 d5
      have k0 := cell_regrown a0
      have k1 := cell_regrown a1
      have k2 := cell_regrown a2
      have k3 := cell_regrown a3
      have k4 := cell_regrown a4
      have hBn : ∀ d os, Below w.heap.size w (grow (redrawn w3 d) os) := fun d os => below_next hBw3 (below_regrown w3 d os)
      have cW : ∀ d os, Calls Try.prog 29 #[.int .i64 i, .int .i64 n] (grow (redrawn w3 d) os) fun e w'' => e = .returned (.int .i64 W0) ∧ ∃ p : Regrown, w'' = grow (redrawn w3 p.d) p.os :=
        fun d os => (HWH.out _).mono fun _ _ ⟨he, hw⟩ => ⟨he, ⟨d, os⟩, hw⟩
      have cP : ∀ d os, Calls Try.prog 30 #[.agg #[.int .i64 s, .int .u8 ak, .int .i64 ame, .slice AA am aca, .slice AB an acb], .int .i64 q, .slice Z zs.length cz] (grow (redrawn w3 d) os) fun e w'' => e = .returned (.bool b0) ∧ ∃ p : Regrown, w'' = grow (redrawn w3 p.d) p.os :=
        fun d os => Calls.regrown_of (HPE.out _ (hBn d os))
      have cR : ∀ d os, Calls Try.prog 31 #[.agg #[.int .i64 s, .int .u8 ak, .int .i64 ame, .slice AA am aca, .slice AB an acb], .int .i64 q, .slice Z zs.length cz] (grow (redrawn w3 d) os) fun e w'' => e = .returned (.bool b0) ∧ ∃ p : Regrown, w'' = grow (redrawn w3 p.d) p.os :=
        fun d os => Calls.regrown_of (HRPE.out _ (hBn d os))
      have CW := Lib.hid cW
      have CP := Lib.hid cP
      have CR := Lib.hid cR
      have e5 : (b0 != b0) = false := by simp
      clear cW cP cR hBn a0 a1 a2 a3 a4
      by_cases hq0 : 0 ≤ W0
      · by_cases hqp : W0 = p
        · have e1 : (W0 == p) = true := by rw [beq_iff_eq]; exact hqp
          have e2 : (W0 != p) = false := by simp [hqp]
          have e3 : decide (W0 = p) = true := decide_eq_true hqp
          have e4 : decide (0 ≤ W0) = true := decide_eq_true hq0
          have hb1 := HB1.out
          rw [e3, e4] at hb1
          simp only [Bool.not_true, Bool.not_false, Bool.and_true, Bool.and_false] at hb1
          subst hb1
          clear hqp
          refine wp_region_quiet_below (by kernel_rfl) (by kernel_rfl) ?_
          repeat (first | go_big_quiet_step (first | exact CW.out _ _ | exact CP.out _ _ | exact CR.out _ _) | quiet_step (first | exact CW.out _ _ | exact CP.out _ _ | exact CR.out _ _))
          refine wpQuiet_nil ?_
          intro _ hw'
          obtain ⟨⟨dq, osq⟩, hw''⟩ := hw'
          subst hw''
          go_wp2_with fail
          go_meet
          exact ⟨by simp, below_regrown w3 dq osq⟩
        · have e1 : (W0 == p) = false := by rw [beq_eq_false_iff_ne]; exact hqp
          have e2 : (W0 != p) = true := by simp [hqp]
          have e3 : decide (W0 = p) = false := decide_eq_false hqp
          have e4 : decide (0 ≤ W0) = true := decide_eq_true hq0
          have hb1 := HB1.out
          rw [e3, e4] at hb1
          simp only [Bool.not_true, Bool.not_false, Bool.and_true, Bool.and_false] at hb1
          subst hb1
          clear hqp
          refine wp_region_quiet_below (by kernel_rfl) (by kernel_rfl) ?_
          repeat (first | go_big_quiet_step (first | exact CW.out _ _ | exact CP.out _ _ | exact CR.out _ _) | quiet_step (first | exact CW.out _ _ | exact CP.out _ _ | exact CR.out _ _))
          refine wpQuiet_nil ?_
          intro _ hw'
          obtain ⟨⟨dq, osq⟩, hw''⟩ := hw'
          subst hw''
          go_wp2_with fail
          go_meet
          exact ⟨by simp, below_regrown w3 dq osq⟩
      · have e4 : decide (0 ≤ W0) = false := decide_eq_false hq0
        have hb1 := HB1.out
        rw [e4, Bool.false_and] at hb1
        subst hb1
        have e6 : W0 < 0 := by omega
        have e7 : decide (W0 < 0) = true := decide_eq_true e6
        refine wp_region_quiet_below (by kernel_rfl) (by kernel_rfl) ?_
        repeat (first | go_big_quiet_step (first | exact CW.out _ _ | exact CP.out _ _ | exact CR.out _ _) | quiet_step (first | exact CW.out _ _ | exact CP.out _ _ | exact CR.out _ _))
        refine wpQuiet_nil ?_
        intro _ hw'
        obtain ⟨⟨dq, osq⟩, hw''⟩ := hw'
        subst hw''
        go_wp2_with fail
        go_meet
        exact ⟨by simp, below_regrown w3 dq osq⟩
  case rest =>
    as_aux_lemma =>
      obtain ⟨rfl, hcut⟩ := hcut
      have n0 := e0.below hcut
      have n1 := e1.below hcut
      have hB4 : Below w.heap.size w wc := below_next hBw3 hcut
      clear e0 e1 hcut
      clear d0 d1 d2 d3 d4 d5
      clear a0 a1 a2 a3 a4
      have d0 : wc.cell? ⟨w.heap.size, 0, none⟩ = some (.int .i64 pr) := n0.c 0 _ rfl
      have d1 : wc.cell? ⟨w.heap.size, 1, none⟩ = some (.int .i64 sq) := n0.c 1 _ rfl
      have d2 : wc.cell? ⟨w.heap.size, 2, none⟩ = some (.int .u8 k) := n0.c 2 _ rfl
      have d3 : wc.cell? ⟨w.heap.size, 3, none⟩ = some (.int .i64 me) := n0.c 3 _ rfl
      have d4 : wc.cell? ⟨w.heap.size, 4, none⟩ = some (.slice A m ca) := n0.c 4 _ rfl
      have d5 : wc.cell? ⟨w.heap.size, 5, none⟩ = some (.slice B nb cb) := n0.c 5 _ rfl
      have a0 : wc.cell? ⟨w.heap.size + 1, 0, none⟩ = some (.int .i64 s) := n1.c 0 _ rfl
      have a1 : wc.cell? ⟨w.heap.size + 1, 1, none⟩ = some (.int .u8 ak) := n1.c 1 _ rfl
      have a2 : wc.cell? ⟨w.heap.size + 1, 2, none⟩ = some (.int .i64 ame) := n1.c 2 _ rfl
      have a3 : wc.cell? ⟨w.heap.size + 1, 3, none⟩ = some (.slice AA am aca) := n1.c 3 _ rfl
      have a4 : wc.cell? ⟨w.heap.size + 1, 4, none⟩ = some (.slice AB an acb) := n1.c 4 _ rfl
      go_wp2_with fail
      refine (HREF.out _ hB4).mono ?_
      rintro e w5 ⟨rfl, hb⟩
      have hB5' : Below w.heap.size w w5 := below_next hB4 hb
      obtain ⟨W5, hW5⟩ : ∃ W5, w5.alloc (.cells #[.int .i64 PR, .int .i64 SQ, .int .u8 K, .int .i64 ME, .slice WA M wca, .slice WB NB wcb] 58) = W5 := ⟨_, rfl⟩
      have m0 : Blk W5 w.heap.size [.int .i64 pr, .int .i64 sq, .int .u8 k, .int .i64 me, .slice A m ca, .slice B nb cb] := by rw [← hW5]; exact (n0.below hb).alloc _
      have m1 : Blk W5 (w.heap.size + 1) [.int .i64 s, .int .u8 ak, .int .i64 ame, .slice AA am aca, .slice AB an acb] := by rw [← hW5]; exact (n1.below hb).alloc _
      have m2 : Blk W5 w5.heap.size [.int .i64 PR, .int .i64 SQ, .int .u8 K, .int .i64 ME, .slice WA M wca, .slice WB NB wcb] := by rw [← hW5]; exact Blk.new w5 _ _
      have hB5 : Below w.heap.size w W5 := by rw [← hW5]; exact hB5'.alloc hB5'.size _
      have hg2 : w.heap.size + 1 < w5.heap.size := (n1.below hb).l
      clear d0 d1 d2 d3 d4 d5
      clear a0 a1 a2 a3 a4
      clear n0 n1 hb hB4 hB5'
      go_wp2_with fail
      try rw [hW5]
      have M0 := Lib.hid m0
      have M1 := Lib.hid m1
      have M2 := Lib.hid m2
      clear hW5 m0 m1 m2
      go_loopw [19] (fun t wr => ∃ j : Nat, j ≤ 2 ∧ t = .int .i64 j ∧ Blk wr w.heap.size [.int .i64 pr, .int .i64 sq, .int .u8 k, .int .i64 me, .slice A m ca, .slice B nb cb] ∧ Blk wr (w.heap.size + 1) [.int .i64 s, .int .u8 ak, .int .i64 ame, .slice AA am aca, .slice AB an acb] ∧ Blk wr w5.heap.size [.int .i64 PR, .int .i64 SQ, .int .u8 K, .int .i64 ME, .slice WA M wca, .slice WB NB wcb] ∧ Below w.heap.size w wr) (fun t _ => 2 - (intOf t).toNat)
      case atStart => exact ⟨0, by omega, rfl, M0.out, M1.out, M2.out, hB5⟩
      case round =>
        obtain ⟨j, hj, rfl, b0', b1', b2', hBr⟩ := hrel
        obtain ⟨WR, rfl⟩ : ∃ WR, WR = wr := ⟨_, rfl⟩
        by_cases hlt : j < 2
        · have hpk := HPICK.out WR hBr
          have HPK := Lib.hid hpk
          clear hpk
          have d0 : WR.cell? ⟨w.heap.size, 0, none⟩ = some (.int .i64 pr) := b0'.c 0 _ rfl
          have d1 : WR.cell? ⟨w.heap.size, 1, none⟩ = some (.int .i64 sq) := b0'.c 1 _ rfl
          have d2 : WR.cell? ⟨w.heap.size, 2, none⟩ = some (.int .u8 k) := b0'.c 2 _ rfl
          have d3 : WR.cell? ⟨w.heap.size, 3, none⟩ = some (.int .i64 me) := b0'.c 3 _ rfl
          have d4 : WR.cell? ⟨w.heap.size, 4, none⟩ = some (.slice A m ca) := b0'.c 4 _ rfl
          have d5 : WR.cell? ⟨w.heap.size, 5, none⟩ = some (.slice B nb cb) := b0'.c 5 _ rfl
          have a0 : WR.cell? ⟨w.heap.size + 1, 0, none⟩ = some (.int .i64 s) := b1'.c 0 _ rfl
          have a1 : WR.cell? ⟨w.heap.size + 1, 1, none⟩ = some (.int .u8 ak) := b1'.c 1 _ rfl
          have a2 : WR.cell? ⟨w.heap.size + 1, 2, none⟩ = some (.int .i64 ame) := b1'.c 2 _ rfl
          have a3 : WR.cell? ⟨w.heap.size + 1, 3, none⟩ = some (.slice AA am aca) := b1'.c 3 _ rfl
          have a4 : WR.cell? ⟨w.heap.size + 1, 4, none⟩ = some (.slice AB an acb) := b1'.c 4 _ rfl
          go_wp2_with fail
          refine HPK.out.mono ?_
          rintro e w6 ⟨A1, c1, B1, c2, rfl, hb6, hO⟩
          obtain ⟨W7, hW7⟩ : ∃ W7, w6.alloc (.cells #[.int .i64 PR, .int .i64 SQ, .int .u8 K, .int .i64 ME, .slice A1 M c1, .slice B1 NB c2] 58) = W7 := ⟨_, rfl⟩
          have h67 : Below w6.heap.size w6 W7 := by rw [← hW7]; exact (Below.refl _ _).alloc (Nat.le_refl _) _
          have m0 : Blk W7 w.heap.size [.int .i64 pr, .int .i64 sq, .int .u8 k, .int .i64 me, .slice A m ca, .slice B nb cb] := (b0'.below hb6).below h67
          have m1 : Blk W7 (w.heap.size + 1) [.int .i64 s, .int .u8 ak, .int .i64 ame, .slice AA am aca, .slice AB an acb] := (b1'.below hb6).below h67
          have m2 : Blk W7 w5.heap.size [.int .i64 PR, .int .i64 SQ, .int .u8 K, .int .i64 ME, .slice WA M wca, .slice WB NB wcb] := (b2'.below hb6).below h67
          have m3 : Blk W7 w6.heap.size [.int .i64 PR, .int .i64 SQ, .int .u8 K, .int .i64 ME, .slice A1 M c1, .slice B1 NB c2] := by rw [← hW7]; exact Blk.new w6 _ _
          have hgB : ∀ a : Addr, B1 = some a → X ≠ [] → WR.heap.size ≤ a.block ∧ a.block < w6.heap.size := by
            intro a ha hx
            obtain ⟨g, e, h1, h2, -⟩ := hO.cb 0 (by rw [byteCells_length]; have := List.length_pos_iff.2 hx; omega)
            rw [ha] at e; injection e with e; rw [e]; exact ⟨h1, h2⟩
          have hgA : ∀ a : Addr, A1 = some a → U ≠ [] → WR.heap.size ≤ a.block ∧ a.block < w6.heap.size := by
            intro a ha hx
            obtain ⟨g, e, h1, h2, -⟩ := hO.ca 0 (by rw [valCells_length]; have := List.length_pos_iff.2 hx; omega)
            rw [ha] at e; injection e with e; rw [e]; exact ⟨h1, h2⟩
          have hap : ∀ a b : Addr, A1 = some a → B1 = some b → U ≠ [] → X ≠ [] → a.block ≠ b.block := fun a b ha hb hu hx =>
            hO.ap (by intro e; have := congrArg List.length e; rw [valCells_length, List.length_nil] at this; exact hu (List.length_eq_zero_iff.1 (by omega))) (by intro e; have := congrArg List.length e; rw [byteCells_length, List.length_nil] at this; exact hx (List.length_eq_zero_iff.1 (by omega))) a b ha hb
          have HGB := Lib.hid hgB
          have HGA := Lib.hid hgA
          have HAP := Lib.hid hap
          clear hgB hgA hap
          have hO7 := hO.below h67
          have hB7 : Below w.heap.size w W7 := below_next (below_next hBr hb6) h67
          have hg : w5.heap.size < w6.heap.size ∧ w.heap.size + 1 < w6.heap.size ∧ WR.heap.size ≤ w6.heap.size ∧ w.heap.size ≤ WR.heap.size ∧ w5.heap.size < WR.heap.size ∧ w.heap.size + 1 < WR.heap.size := ⟨(b2'.below hb6).l, (b1'.below hb6).l, hb6.size, hBr.size, b2'.l, b1'.l⟩
          clear d0 d1 d2 d3 d4 d5
          clear a0 a1 a2 a3 a4
          clear b0' b1' b2' hb6 hO h67
          have M0 := Lib.hid m0
          have M1 := Lib.hid m1
          have M2 := Lib.hid m2
          have M3 := Lib.hid m3
          have O7 := Lib.hid hO7
          clear m0 m1 m2 m3 hO7
          have d0 : W7.cell? ⟨w5.heap.size, 0, none⟩ = some (.int .i64 PR) := M2.out.c 0 _ rfl
          have d1 : W7.cell? ⟨w5.heap.size, 1, none⟩ = some (.int .i64 SQ) := M2.out.c 1 _ rfl
          have d2 : W7.cell? ⟨w5.heap.size, 2, none⟩ = some (.int .u8 K) := M2.out.c 2 _ rfl
          have d3 : W7.cell? ⟨w5.heap.size, 3, none⟩ = some (.int .i64 ME) := M2.out.c 3 _ rfl
          have d4 : W7.cell? ⟨w5.heap.size, 4, none⟩ = some (.slice WA M wca) := M2.out.c 4 _ rfl
          have d5 : W7.cell? ⟨w5.heap.size, 5, none⟩ = some (.slice WB NB wcb) := M2.out.c 5 _ rfl
          have f0 : W7.cell? ⟨w6.heap.size, 0, none⟩ = some (.int .i64 PR) := M3.out.c 0 _ rfl
          have f1 : W7.cell? ⟨w6.heap.size, 1, none⟩ = some (.int .i64 SQ) := M3.out.c 1 _ rfl
          have f2 : W7.cell? ⟨w6.heap.size, 2, none⟩ = some (.int .u8 K) := M3.out.c 2 _ rfl
          have f3 : W7.cell? ⟨w6.heap.size, 3, none⟩ = some (.int .i64 ME) := M3.out.c 3 _ rfl
          have f4 : W7.cell? ⟨w6.heap.size, 4, none⟩ = some (.slice A1 M c1) := M3.out.c 4 _ rfl
          have f5 : W7.cell? ⟨w6.heap.size, 5, none⟩ = some (.slice B1 NB c2) := M3.out.c 5 _ rfl
          go_wp2_with fail
          try rw [hW7]
          refine (sameEnt_any PR SQ K ME PR SQ K ME A1 B1 WA WB M c1 NB c2 M wca NB wcb U U X X W7 (O7.out.opAt HWANT.out.at') (HWANT.out.at'.below hB7)).mono ?_
          rw [sameEnt_self]
          rintro e W8 ⟨rfl, hb8⟩
          have m0 := M0.out.below hb8
          have m1 := M1.out.below hb8
          have m2 := M2.out.below hb8
          have m3 := M3.out.below hb8
          have O8 := Lib.hid (O7.out.below hb8)
          have hB8 : Below w.heap.size w W8 := below_next hB7 hb8
          have HM : Hid (Blk W8 w.heap.size [.int .i64 pr, .int .i64 sq, .int .u8 k, .int .i64 me, .slice A m ca, .slice B nb cb] ∧ Blk W8 (w.heap.size + 1) [.int .i64 s, .int .u8 ak, .int .i64 ame, .slice AA am aca, .slice AB an acb] ∧ Blk W8 w5.heap.size [.int .i64 PR, .int .i64 SQ, .int .u8 K, .int .i64 ME, .slice WA M wca, .slice WB NB wcb] ∧ Blk W8 w6.heap.size [.int .i64 PR, .int .i64 SQ, .int .u8 K, .int .i64 ME, .slice A1 M c1, .slice B1 NB c2]) := Lib.hid ⟨m0, m1, m2, m3⟩
          have hlx : Hid (X.length = NB) := Lib.hid HWANT.out.at'.lx
          have hlu : Hid (U.length = M) := Lib.hid HWANT.out.at'.lu
          have hnb : (NB : Int) ≤ 3000 := by have := HWANT.out.at'.mb; omega
          have hma : (M : Int) ≤ 3000 := by have := HWANT.out.at'.ma; omega
          have hz8 : w6.heap.size < W8.heap.size := m3.l
          clear d0 d1 d2 d3 d4 d5
          clear f0 f1 f2 f3 f4 f5
          clear m0 m1 m2 m3 M0 M1 M2 M3 O7 hb8 hB7 hW7
          go_wp2_with fail
          go_loopw [21] (fun t V => ∃ kk : Nat, kk ≤ NB ∧ t = .int .i64 kk ∧ BInc W8 V B1 X kk ∧ Below w.heap.size w V) (fun t _ => NB - (intOf t).toNat)
          case atStart => exact ⟨0, by omega, rfl, BInc.zero O8.out.cb, hB8⟩
          case round =>
            obtain ⟨kk, hkk, rfl, hinc, hBk⟩ := hrel
            have HINC := Lib.hid hinc
            have x2 : wr.cell? ⟨w6.heap.size, 4, none⟩ = some (.slice A1 M c1) := (hinc.o _ _ (fun a ha hx => by have := HGB.out a ha hx; omega)).trans (HM.out.2.2.2.c 4 _ rfl)
            have x3 : wr.cell? ⟨w6.heap.size, 5, none⟩ = some (.slice B1 NB c2) := (hinc.o _ _ (fun a ha hx => by have := HGB.out a ha hx; omega)).trans (HM.out.2.2.2.c 5 _ rfl)
            clear hinc
            by_cases hlt2 : kk < NB
            · obtain ⟨g, rfl, hc, hf⟩ := HINC.out.c kk (by rw [hlx.out]; exact hlt2)
              rw [if_neg (by omega)] at hc
              obtain ⟨x, hx⟩ : ∃ x, X[kk]?.getD 0 = x := ⟨_, rfl⟩
              rw [hx] at hc
              have hst := HINC.out.step (by rw [hlx.out]; exact hlt2) hx
              have HST := Lib.hid hst
              have HXN : Hid (X ≠ []) := Lib.hid (fun e => by have := hlx.out; rw [e] at this; simp at this; omega)
              clear hst hx
              go_wp2_with fail
              go_roundw
              case rel => exact ⟨kk + 1, by omega, by go_num, HST.out, hBk.setCell (by have := (HGB.out _ rfl HXN.out).1; show w.heap.size ≤ g; have : WR.heap.size ≤ g := this; omega) _⟩
              case measure => simp [intOf]; omega
            · obtain rfl : kk = NB := by omega
              have hai : AInc wr wr A1 U 0 := by
                refine AInc.zero (B0 := WR.heap.size) (fun j hj => ?_)
                obtain ⟨g, e, h1, h2, h3, h4⟩ := O8.out.ca j hj
                have hu : U ≠ [] := by intro e2; rw [e2] at hj; simp [valCells] at hj
                refine ⟨g, e, h1, by rw [HINC.out.s]; exact h2, ?_, (HINC.out.f _ _).trans h4⟩
                exact (HINC.out.o _ _ (fun b hb hx => fun e3 => HAP.out _ _ e hb hu hx e3.symm)).trans h3
              have HAI := Lib.hid hai
              clear hai
              obtain ⟨W9, rfl⟩ : ∃ W9, W9 = wr := ⟨_, rfl⟩
              go_wp2_with fail
              go_loopw [22] (fun t V => ∃ kk2 : Nat, kk2 ≤ M ∧ t = .int .i64 kk2 ∧ AInc W9 V A1 U kk2 ∧ Below w.heap.size w V) (fun t _ => M - (intOf t).toNat)
              case atStart => exact ⟨0, by omega, rfl, HAI.out, hBk⟩
              case round =>
                obtain ⟨kk2, hkk2, rfl, hinc2, hBk2⟩ := hrel
                have HINC2 := Lib.hid hinc2
                have y2 : wr.cell? ⟨w6.heap.size, 4, none⟩ = some (.slice A1 M c1) := (hinc2.o _ _ (fun a ha hx => by have := HGA.out a ha hx; omega)).trans x2
                have y3 : wr.cell? ⟨w6.heap.size, 5, none⟩ = some (.slice B1 kk c2) := (hinc2.o _ _ (fun a ha hx => by have := HGA.out a ha hx; omega)).trans x3
                have X2 := Lib.hid x2
                have X3 := Lib.hid x3
                clear hinc2 x2 x3
                by_cases hlt3 : kk2 < M
                · obtain ⟨g, rfl, hc0, hc, hc2, hf⟩ := HINC2.out.c kk2 (by rw [hlu.out]; exact hlt3)
                  rw [if_neg (by omega)] at hc
                  obtain ⟨x, hx⟩ : ∃ x, (U[kk2]?.getD (0, 0, 0)).2.1 = x := ⟨_, rfl⟩
                  rw [hx] at hc
                  have hst := HINC2.out.step (by rw [hlu.out]; exact hlt3) hx
                  have HST := Lib.hid hst
                  have HUN : Hid (U ≠ []) := Lib.hid (fun e => by have := hlu.out; rw [e] at this; simp at this; omega)
                  clear hst hx hc0 hc2
                  go_wp2_with fail
                  go_roundw
                  case rel => exact ⟨kk2 + 1, by omega, by go_num, HST.out, hBk2.setCell (by have := (HGA.out _ rfl HUN.out).1; show w.heap.size ≤ g; have : WR.heap.size ≤ g := this; omega) _⟩
                  case measure => simp [intOf]; omega
                · obtain rfl : kk2 = M := by omega
                  have q0 := inc_blk HM.out.1 HINC.out HINC2.out (fun a ha hx => by have := HGA.out a ha hx; omega) (fun a ha hx => by have := HGB.out a ha hx; omega)
                  have q1 := inc_blk HM.out.2.1 HINC.out HINC2.out (fun a ha hx => by have := HGA.out a ha hx; omega) (fun a ha hx => by have := HGB.out a ha hx; omega)
                  have q2 := inc_blk HM.out.2.2.1 HINC.out HINC2.out (fun a ha hx => by have := HGA.out a ha hx; omega) (fun a ha hx => by have := HGB.out a ha hx; omega)
                  have q3 := inc_blk HM.out.2.2.2 HINC.out HINC2.out (fun a ha hx => by have := HGA.out a ha hx; omega) (fun a ha hx => by have := HGB.out a ha hx; omega)
                  have hop := inc_opAt (WA := WA) (WB := WB) (O8.out.opAt HWANT.out.at') HINC.out HINC2.out HAP.out
                  have hsame := sameEnt_any PR SQ K ME PR SQ K ME A1 B1 WA WB kk2 c1 kk c2 kk2 wca kk wcb (incU U) U (incX X) X wr hop (HWANT.out.at'.below hBk2)
                  have Q0 := Lib.hid q0
                  have Q1 := Lib.hid q1
                  have Q2 := Lib.hid q2
                  clear hop y2 y3
                  have d0 : wr.cell? ⟨w5.heap.size, 0, none⟩ = some (.int .i64 PR) := Q2.out.c 0 _ rfl
                  have d1 : wr.cell? ⟨w5.heap.size, 1, none⟩ = some (.int .i64 SQ) := Q2.out.c 1 _ rfl
                  have d2 : wr.cell? ⟨w5.heap.size, 2, none⟩ = some (.int .u8 K) := Q2.out.c 2 _ rfl
                  have d3 : wr.cell? ⟨w5.heap.size, 3, none⟩ = some (.int .i64 ME) := Q2.out.c 3 _ rfl
                  have d4 : wr.cell? ⟨w5.heap.size, 4, none⟩ = some (.slice WA kk2 wca) := Q2.out.c 4 _ rfl
                  have d5 : wr.cell? ⟨w5.heap.size, 5, none⟩ = some (.slice WB kk wcb) := Q2.out.c 5 _ rfl
                  have f0 : wr.cell? ⟨w6.heap.size, 0, none⟩ = some (.int .i64 PR) := q3.c 0 _ rfl
                  have f1 : wr.cell? ⟨w6.heap.size, 1, none⟩ = some (.int .i64 SQ) := q3.c 1 _ rfl
                  have f2 : wr.cell? ⟨w6.heap.size, 2, none⟩ = some (.int .u8 K) := q3.c 2 _ rfl
                  have f3 : wr.cell? ⟨w6.heap.size, 3, none⟩ = some (.int .i64 ME) := q3.c 3 _ rfl
                  have f4 : wr.cell? ⟨w6.heap.size, 4, none⟩ = some (.slice A1 kk2 c1) := q3.c 4 _ rfl
                  have f5 : wr.cell? ⟨w6.heap.size, 5, none⟩ = some (.slice B1 kk c2) := q3.c 5 _ rfl
                  by_cases hnz : (U.length = 0 ∧ X.length = 0)
                  · obtain rfl : kk2 = 0 := by rw [← hlu.out]; exact hnz.1
                    obtain rfl : kk = 0 := by rw [← hlx.out]; exact hnz.2
                    clear hsame q0 q1 q2 q3 hnz
                    go_wp2_with fail
                    refine ⟨⟨j + 1, by omega, by go_num, Q0.out, Q1.out, Q2.out, hBk2⟩, by simp [intOf]; omega⟩
                  · rw [incSame PR SQ K ME HWANT.out.at'.rx hnz] at hsame
                    have HSAME := Lib.hid hsame
                    have hpos : 0 < kk + kk2 := by
                      have e1 := hlu.out
                      have e2 := hlx.out
                      omega
                    have hpos2 : (0 : Int) < (kk : Int) + (kk2 : Int) := by omega
                    clear hsame q0 q1 q2 q3 hnz
                    go_wp2_with fail
                    refine HSAME.out.mono ?_
                    rintro e W11 ⟨rfl, hb11⟩
                    go_wp2_with fail
                    refine ⟨⟨j + 1, by omega, by go_num, Q0.out.below hb11, Q1.out.below hb11, Q2.out.below hb11, below_next hBk2 hb11⟩, by simp [intOf]; omega⟩
        · go_wp2_with fail
          go_ret
          exact ⟨rfl, hBr⟩
end Go.Proofs.Ytkjmnmcekhnkmab
