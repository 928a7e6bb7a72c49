/- What is put forward is the own entry, or has a Seq above the replica's: for every input. -/
import Derived.Test.YtkjmnmcekhnkmabAnnI
import Derived.Test.YtkjmnmcekhnkmabOpen
namespace Go.Proofs.Ytkjmnmcekhnkmab
open Go.RowKit Go.Shelf
set_option linter.unusedSimpArgs false
set_option linter.unusedVariables false

theorem cells68 : Try.prog.cellsOf 68 = 3 := by kernel_rfl
theorem cells5 : Try.prog.cellsOf 5 = 1 := by kernel_rfl
theorem cells3 : Try.prog.cellsOf 3 = 1 := by kernel_rfl
theorem cells53 : Try.prog.cellsOf 53 = 1 := by kernel_rfl
theorem cells54 : Try.prog.cellsOf 54 = 1 := by kernel_rfl
theorem cells56 : Try.prog.cellsOf 56 = 4 := by kernel_rfl
theorem cells2 : Try.prog.cellsOf 2 = 1 := by kernel_rfl

/-- A slice's cells, whatever they are. -/
def SlIn (n₀ : Nat) (W : World) (A : Option Addr) (n size : Nat) : Prop :=
  (A = none → n = 0) ∧ ∃ cs : List Value, cs.length = n * size ∧ (∀ u ∈ cs, u.oneCell' = true) ∧ CellsIn n₀ W A cs

theorem slIn_of {W : World} {A : Option Addr} {n size : Nat} (h0 : A = none → n = 0) (h : ∀ i, i < n → ∃ (g o : Nat) (es : List Value), A = some ⟨g, o, none⟩ ∧ g < W.heap.size ∧ es.length = size ∧
    (∀ q, q < size → W.cell? ⟨g, o + (i * size + q), none⟩ = es[q]?) ∧ ∀ u ∈ es, u.oneCell' = true) : SlIn W.heap.size W A n size := by
  refine ⟨h0, ?_⟩
  have key : ∀ j, j < n * size → ∃ g o v, A = some ⟨g, o, none⟩ ∧ g < W.heap.size ∧ W.cell? ⟨g, o + j, none⟩ = some v ∧ v.oneCell' = true := by
    intro j hj
    have hs : 0 < size := Nat.pos_of_ne_zero (fun e => by rw [e] at hj; omega)
    obtain ⟨g, o, es, hA, hg, hl, hc, ho⟩ := h (j / size) ((Nat.div_lt_iff_lt_mul hs).2 hj)
    have hq := Nat.mod_lt j hs
    have e := hc (j % size) hq
    rw [Nat.div_add_mod'] at e
    rw [List.getElem?_eq_getElem (by omega)] at e
    exact ⟨g, o, _, hA, hg, e, ho _ (List.getElem_mem _)⟩
  by_cases hn : n * size = 0
  · exact ⟨[], by rw [hn]; rfl, fun u hu => (by cases hu), fun j hj => (by cases hj)⟩
  · obtain ⟨g, o, v, rfl, hg, -⟩ := key 0 (by omega)
    refine ⟨(List.range (n * size)).map (fun j => (W.cell? ⟨g, o + j, none⟩).getD undef), by simp, fun u hu => ?_, fun j hj => ?_⟩
    · obtain ⟨j, hj, rfl⟩ := List.mem_map.1 hu
      obtain ⟨g', o', v', e, -, hc, ho⟩ := key j (List.mem_range.1 hj)
      injection e with e
      injection e with e1 e2
      subst e1 e2
      rw [hc]
      exact ho
    · simp only [List.length_map, List.length_range] at hj
      obtain ⟨g', o', v', e, -, hc, ho⟩ := key j hj
      injection e with e
      injection e with e1 e2
      subst e1 e2
      refine ⟨g, o, rfl, hg, ?_⟩
      rw [List.getElem?_map, List.getElem?_range hj, hc]
      simp [hc]

theorem one_int (k : IntKind) (z : Int) : (Value.int k z).oneCell' = true := rfl

/-- A slice of api.Value, opened. -/
theorem vals_in {W : World} {n : Nat} {v : Value} (h : deepOk Try.prog W (n + 4) 53 [v]) : ∃ A m c, v = .slice A m c ∧ SlIn W.heap.size W A m 3 := by
  obtain ⟨A, m, c, hv, -, h0, hi⟩ := deepOk_slice Try.underlying53 h
  injection hv with hv
  refine ⟨A, m, c, hv, slIn_of h0 (fun i him => ?_)⟩
  obtain ⟨g, o, es, hA, hg, hl, hc, hd⟩ := hi (by rw [cells68]; omega) i him
  rw [cells68] at hl hc
  refine ⟨g, o, es, hA, hg, hl, hc, fun u hu => ?_⟩
  match es, hl with
  | [x, y, z], _ =>
    have d0 := deepOk_at Try.underlying68 hd 0 5 0 _ _ rfl rfl rfl cells5
    have d1 := deepOk_at Try.underlying68 hd 1 2 1 _ _ rfl rfl rfl cells2
    have d2 := deepOk_at Try.underlying68 hd 2 2 2 _ _ rfl rfl rfl cells2
    obtain ⟨a, e0, -⟩ := deepOk_int Try.underlying5 d0
    obtain ⟨b, e1, -⟩ := deepOk_int Try.underlying2 d1
    obtain ⟨c, e2, -⟩ := deepOk_int Try.underlying2 d2
    injection e0 with e0
    injection e1 with e1
    injection e2 with e2
    subst e0 e1 e2
    simp at hu
    rcases hu with rfl | rfl | rfl <;> rfl

/-- A slice of bytes, opened. -/
theorem bytes_in {W : World} {n : Nat} {v : Value} (h : deepOk Try.prog W (n + 2) 54 [v]) : ∃ A m c, v = .slice A m c ∧ SlIn W.heap.size W A m 1 := by
  obtain ⟨A, m, c, hv, -, h0, hi⟩ := deepOk_slice Try.underlying54 h
  injection hv with hv
  refine ⟨A, m, c, hv, slIn_of h0 (fun i him => ?_)⟩
  obtain ⟨g, o, es, hA, hg, hl, hc, hd⟩ := hi (by rw [cells5]; omega) i him
  rw [cells5] at hl hc
  refine ⟨g, o, es, hA, hg, hl, hc, fun u hu => ?_⟩
  obtain ⟨z, rfl, -⟩ := deepOk_int Try.underlying5 hd
  simp at hu
  rw [hu]
  rfl

/-- An operation, opened. -/
theorem op_in {W : World} {n : Nat} {cs : List Value} (hl : cs.length = 4) (h : deepOk Try.prog W (n + 5) 56 cs) :
    ∃ k me A m ca B nb cb, cs = [.int .u8 k, .int .i64 me, .slice A m ca, .slice B nb cb] ∧ SlIn W.heap.size W A m 3 ∧ SlIn W.heap.size W B nb 1 := by
  match cs, hl with
  | [x, y, z, u], _ =>
    have d0 := deepOk_at Try.underlying56 h 0 5 0 _ _ rfl rfl rfl cells5
    have d1 := deepOk_at Try.underlying56 h 1 3 1 _ _ rfl rfl rfl cells3
    have d2 := deepOk_at Try.underlying56 h 2 53 2 _ _ rfl rfl rfl cells53
    have d3 := deepOk_at Try.underlying56 h 3 54 3 _ _ rfl rfl rfl cells54
    obtain ⟨A, m, ca, rfl, hA⟩ := vals_in d2
    obtain ⟨B, nb, cb, rfl, hB⟩ := bytes_in d3
    obtain ⟨k, hk, -⟩ := deepOk_int Try.underlying5 d0
    obtain ⟨me, hme, -⟩ := deepOk_int Try.underlying3 d1
    injection hk with hk
    injection hme with hme
    subst hk hme
    exact ⟨k, me, A, m, ca, B, nb, cb, rfl, hA, hB⟩

/-- An entry, opened. -/
theorem entry_in {W : World} {cs : Array Value} (hl : cs.size = Try.prog.cellsOf 58) (h : deepOk Try.prog W 8 58 cs.toList) :
    ∃ pr sq k me A m ca B nb cb, cs = #[.int .i64 pr, .int .i64 sq, .int .u8 k, .int .i64 me, .slice A m ca, .slice B nb cb] ∧ SlIn W.heap.size W A m 3 ∧ SlIn W.heap.size W B nb 1 := by
  rw [show Try.prog.cellsOf 58 = 6 by kernel_rfl] at hl
  obtain ⟨l⟩ := cs
  match l, hl with
  | [x, y, z, u, v, t], _ =>
    have d0 := deepOk_at Try.underlying58 h 0 3 0 _ _ rfl rfl rfl cells3
    have d1 := deepOk_at Try.underlying58 h 1 3 1 _ _ rfl rfl rfl cells3
    have d2 := deepOk_at Try.underlying58 h 2 56 2 _ _ rfl rfl rfl cells56
    obtain ⟨k, me, A, m, ca, B, nb, cb, e, hA, hB⟩ := op_in rfl d2
    obtain ⟨pr, hpr, -⟩ := deepOk_int Try.underlying3 d0
    obtain ⟨sq, hsq, -⟩ := deepOk_int Try.underlying3 d1
    injection hpr with hpr
    injection hsq with hsq
    subst hpr hsq
    injection e with e1 e
    injection e with e2 e
    injection e with e3 e
    injection e with e4 e
    subst e1 e2 e3 e4
    exact ⟨pr, sq, k, me, A, m, ca, B, nb, cb, rfl, hA, hB⟩

/-- An announcement, opened. -/
theorem ann_in {W : World} {cs : Array Value} (hl : cs.size = Try.prog.cellsOf 60) (h : deepOk Try.prog W 8 60 cs.toList) :
    ∃ s k me A m ca B nb cb, cs = #[.int .i64 s, .int .u8 k, .int .i64 me, .slice A m ca, .slice B nb cb] ∧ SlIn W.heap.size W A m 3 ∧ SlIn W.heap.size W B nb 1 := by
  rw [show Try.prog.cellsOf 60 = 5 by kernel_rfl] at hl
  obtain ⟨l⟩ := cs
  match l, hl with
  | [x, z, u, v, t], _ =>
    have d0 := deepOk_at Try.underlying60 h 0 3 0 _ _ rfl rfl rfl cells3
    have d2 := deepOk_at Try.underlying60 h 1 56 1 _ _ rfl rfl rfl cells56
    obtain ⟨k, me, A, m, ca, B, nb, cb, e, hA, hB⟩ := op_in rfl d2
    obtain ⟨pr, hpr, -⟩ := deepOk_int Try.underlying3 d0
    injection hpr with hpr
    subst hpr
    injection e with e1 e
    injection e with e2 e
    injection e with e3 e
    injection e with e4 e
    subst e1 e2 e3 e4
    exact ⟨pr, k, me, A, m, ca, B, nb, cb, rfl, hA, hB⟩

/-- A slice of numbers, opened. -/
theorem ints_in {W : World} {A : Option Addr} {n cap : Nat} (h : deepOk Try.prog W 8 29 [.slice A n cap]) : ∃ zs : List Int, zs.length = n ∧ IntsAt W.heap.size W A zs ∧ (A = none → n = 0) := by
  obtain ⟨A', m, c, hv, -, h0, hi⟩ := deepOk_slice Try.underlying29 h
  injection hv with hv
  injection hv with e1 e2 e3
  subst e1 e2 e3
  have key : ∀ j, j < n → ∃ b off z, A = some ⟨b, off, none⟩ ∧ b < W.heap.size ∧ W.cell? ⟨b, off + j, none⟩ = some (.int .i64 z) := by
    intro j hj
    obtain ⟨g, o, es, hA, hg, hl, hc, hd⟩ := hi (by rw [cells3]; omega) j hj
    rw [cells3] at hl hc
    obtain ⟨z, rfl, -⟩ := deepOk_int Try.underlying3 hd
    exact ⟨g, o, z, hA, hg, by simpa using hc 0 (by omega)⟩
  by_cases hn : n = 0
  · exact ⟨[], by rw [hn]; rfl, fun j hj => (by cases hj), h0⟩
  · obtain ⟨b, off, z, rfl, hb, -⟩ := key 0 (by omega)
    refine ⟨(List.range n).map (fun j => match W.cell? ⟨b, off + j, none⟩ with | some (.int .i64 z) => z | _ => 0), by simp, fun j hj => ?_, h0⟩
    simp only [List.length_map, List.length_range] at hj
    obtain ⟨b', off', z', e, hb', hc⟩ := key j hj
    injection e with e
    injection e with e1 e2
    subst e1 e2
    refine ⟨b, off, rfl, hb, ?_⟩
    rw [List.getElem?_map, List.getElem?_range hj, hc]
    simp [hc]

theorem opIn_of {W : World} {A : Option Addr} {m : Nat} {B : Option Addr} {n : Nat} (ha : SlIn W.heap.size W A m 3) (hb : SlIn W.heap.size W B n 1) (hg : greatB m n = false) : ∃ xs ys, OpIn W.heap.size W A m B n xs ys := by
  obtain ⟨na, xs, la, oa, ca⟩ := ha
  obtain ⟨nb, ys, lb, ob, cb⟩ := hb
  unfold greatB at hg
  rw [Bool.or_eq_false_iff, decide_eq_false_iff_not, decide_eq_false_iff_not] at hg
  exact ⟨xs, ys, na, nb, by omega, by omega, la, lb, oa, ob, ca, cb⟩

theorem annNever_walk (i : Int) (c1 c2 : Array Value) (Z : Option Addr) (zl cz : Nat) (w : World) (i1 : -9223372036854775808 ≤ i) (i2 : i ≤ 9223372036854775807)
    (s1 : c1.size = Try.prog.cellsOf 58) (d1 : deepOk Try.prog w 8 58 c1.toList) (s2 : c2.size = Try.prog.cellsOf 60) (d2 : deepOk Try.prog w 8 60 c2.toList) (d3 : deepOk Try.prog w 8 29 [.slice Z zl cz]) :
    Calls Try.prog 9 #[.int .i64 i, .agg c1, .agg c2, .slice Z zl cz] w fun e w' => e = .returned (.bool true) ∧ Below w.heap.size w w' := by
  obtain ⟨pr, sq, k, me, A, m, ca, B, n, cb, rfl, hA, hB⟩ := entry_in s1 d1
  obtain ⟨s, ak, ame, AA, am, aca, AB, an, acb, rfl, hAA, hAB⟩ := ann_in s2 d2
  obtain ⟨zs, rfl, hz, hz0⟩ := ints_in d3
  clear d1 d2 d3 s1 s2
  cases h : greatB m n
  · cases h2 : greatB am an
    · by_cases h3 : 80 < zs.length
      · exact never_g3 i pr sq k me s ak ame A B AA AB Z m ca n cb am aca an acb cz zs.length w h h2 (by omega)
      · obtain ⟨xs, ys, ho⟩ := opIn_of hA hB h
        obtain ⟨axs, ays, ha⟩ := opIn_of hAA hAB h2
        cases hp : pickB i pr s zs
        · exact never_own i pr sq k me s ak ame A B AA AB Z m ca n cb am aca an acb cz xs ys axs ays zs w i1 i2 ho ha hz (by omega) h h2 hp
        · exact never_help i pr sq k me s ak ame A B AA AB Z m ca n cb am aca an acb cz xs ys axs ays zs w i1 i2 ho ha hz (by omega) h h2 hp
    · exact never_g2 i pr sq k me s ak ame A B AA AB Z m ca n cb am aca an acb cz zs.length w h h2
  · exact never_g1 i pr sq k me s ak ame A B AA AB Z m ca n cb am aca an acb cz zs.length w h
#print axioms annNever_walk
end Go.Proofs.Ytkjmnmcekhnkmab
