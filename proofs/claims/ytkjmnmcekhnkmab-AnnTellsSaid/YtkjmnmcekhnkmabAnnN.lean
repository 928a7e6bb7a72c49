/- Whose an index is, who is helped, what is pending, and what is put forward: for every input. -/
import Derived.Test.YtkjmnmcekhnkmabAnnM
namespace Go.Proofs.Ytkjmnmcekhnkmab
open Go.RowKit Go.Shelf
set_option linter.unusedSimpArgs false
set_option linter.unusedVariables false

theorem exists_list {α : Type} (R : Nat → α → Prop) (n : Nat) (h : ∀ i, i < n → ∃ x, R i x) : ∃ l : List α, l.length = n ∧ ∀ i (hi : i < l.length), R i l[i] := by
  induction n with
  | zero => exact ⟨[], rfl, fun i hi => by simp at hi⟩
  | succ n ih =>
    obtain ⟨l, hl, hr⟩ := ih (fun i hi => h i (by omega))
    obtain ⟨x, hx⟩ := h n (by omega)
    refine ⟨l ++ [x], by simp [hl], fun i hi => ?_⟩
    by_cases e : i < l.length
    · rw [List.getElem_append_left e]; exact hr i e
    · have e2 : i = l.length := by simp at hi; omega
      subst e2
      rw [List.getElem_append_right (by omega)]
      simpa [hl] using hx

/-- A slice of values has contents. -/
def ValsHas (W : World) (A : Option Addr) (m : Nat) : Prop := (A = none → m = 0) ∧ ∃ u : List Val3, u.length = m ∧ ValsAt W A u ∧ ∀ a : Addr, A = some a → u ≠ [] → a.block < W.heap.size
def BytesHas (W : World) (A : Option Addr) (m : Nat) : Prop := (A = none → m = 0) ∧ ∃ x : List Int, x.length = m ∧ BytesAt W A x ∧ (∀ a : Addr, A = some a → x ≠ [] → a.block < W.heap.size) ∧ ∀ b ∈ x, 0 ≤ b ∧ b ≤ 255

theorem valsT_in {W : World} {n : Nat} {v : Value} (h : deepOk Try.prog W (n + 4) 53 [v]) : ∃ A m c, v = .slice A m c ∧ ValsHas W A m := by
  obtain ⟨A, m, c, hv, -, h0, hi⟩ := deepOk_slice Try.underlying53 h
  injection hv with hv
  have key : ∀ i, i < m → ∃ x : Val3, ∃ b off, A = some ⟨b, off, none⟩ ∧ b < W.heap.size ∧ W.cell? ⟨b, off + i * 3, none⟩ = some (.int .u8 x.1) ∧ W.cell? ⟨b, off + i * 3 + 1, none⟩ = some (.int .i64 x.2.1) ∧ W.cell? ⟨b, off + i * 3 + 2, none⟩ = some (.int .i64 x.2.2) := by
    intro i him
    obtain ⟨g, o, es, hA, hg, hl, hc, hd⟩ := hi (by rw [cells68]; omega) i him
    rw [cells68] at hl hc
    match es, hl with
    | [x, y, z], _ =>
      have d0 := deepOk_at Try.underlying68 hd 0 5 0 _ _ rfl rfl rfl cells5
      have d1 := deepOk_at Try.underlying68 hd 1 2 1 _ _ rfl rfl rfl cells2
      have d2 := deepOk_at Try.underlying68 hd 2 2 2 _ _ rfl rfl rfl cells2
      obtain ⟨a, e0, -⟩ := deepOk_int Try.underlying5 d0
      obtain ⟨b, e1, -⟩ := deepOk_int Try.underlying2 d1
      obtain ⟨c, e2, -⟩ := deepOk_int Try.underlying2 d2
      injection e0 with e0
      injection e1 with e1
      injection e2 with e2
      subst e0 e1 e2
      exact ⟨(a, b, c), g, o, hA, hg, hc 0 (by omega), by rw [Nat.add_assoc]; exact hc 1 (by omega), by rw [Nat.add_assoc]; exact hc 2 (by omega)⟩
  obtain ⟨u, hu, hr⟩ := exists_list _ m key
  refine ⟨A, m, c, hv, h0, u, hu, fun j hj => ?_, fun a ha hu0 => ?_⟩
  · obtain ⟨b, off, e, -, c0, c1, c2⟩ := hr j hj
    rw [List.getElem?_eq_getElem hj]
    exact ⟨b, off, e, c0, c1, c2⟩
  · obtain ⟨b, off, e, hb, -⟩ := hr 0 (List.length_pos_iff.2 hu0)
    rw [ha] at e
    injection e with e
    rw [e]
    exact hb

theorem bytesT_in {W : World} {n : Nat} {v : Value} (h : deepOk Try.prog W (n + 2) 54 [v]) : ∃ A m c, v = .slice A m c ∧ BytesHas W A m := by
  obtain ⟨A, m, c, hv, -, h0, hi⟩ := deepOk_slice Try.underlying54 h
  injection hv with hv
  have key : ∀ i, i < m → ∃ x : Int, (0 ≤ x ∧ x ≤ 255) ∧ ∃ b off, A = some ⟨b, off, none⟩ ∧ b < W.heap.size ∧ W.cell? ⟨b, off + i, none⟩ = some (.int .u8 x) := by
    intro i him
    obtain ⟨g, o, es, hA, hg, hl, hc, hd⟩ := hi (by rw [cells5]; omega) i him
    rw [cells5] at hl hc
    obtain ⟨z, rfl, hw⟩ := deepOk_int Try.underlying5 hd
    exact ⟨z, wf_u8 hw, g, o, hA, hg, by simpa using hc 0 (by omega)⟩
  obtain ⟨u, hu, hr⟩ := exists_list _ m key
  refine ⟨A, m, c, hv, h0, u, hu, fun j hj => ?_, fun a ha hu0 => ?_, fun b hb => ?_⟩
  · obtain ⟨-, b, off, e, -, c0⟩ := hr j hj
    rw [List.getElem?_eq_getElem hj]
    exact ⟨b, off, e, c0⟩
  · obtain ⟨-, b, off, e, hb, -⟩ := hr 0 (List.length_pos_iff.2 hu0)
    rw [ha] at e
    injection e with e
    rw [e]
    exact hb
  · obtain ⟨i, hi, rfl⟩ := List.mem_iff_getElem.1 hb
    exact (hr i hi).1

/-- An operation, opened. -/
theorem opT_in {W : World} {n : Nat} {cs : List Value} (hl : cs.length = 4) (h : deepOk Try.prog W (n + 5) 56 cs) :
    ∃ k me A m ca B nb cb, cs = [.int .u8 k, .int .i64 me, .slice A m ca, .slice B nb cb] ∧ ValsHas W A m ∧ BytesHas W B nb := by
  match cs, hl with
  | [x, y, z, u], _ =>
    have d0 := deepOk_at Try.underlying56 h 0 5 0 _ _ rfl rfl rfl cells5
    have d1 := deepOk_at Try.underlying56 h 1 3 1 _ _ rfl rfl rfl cells3
    have d2 := deepOk_at Try.underlying56 h 2 53 2 _ _ rfl rfl rfl cells53
    have d3 := deepOk_at Try.underlying56 h 3 54 3 _ _ rfl rfl rfl cells54
    obtain ⟨A, m, ca, rfl, hA⟩ := valsT_in d2
    obtain ⟨B, nb, cb, rfl, hB⟩ := bytesT_in d3
    obtain ⟨k, hk, -⟩ := deepOk_int Try.underlying5 d0
    obtain ⟨me, hme, -⟩ := deepOk_int Try.underlying3 d1
    injection hk with hk
    injection hme with hme
    subst hk hme
    exact ⟨k, me, A, m, ca, B, nb, cb, rfl, hA, hB⟩

/-- An entry, opened. -/
theorem entryT_in {W : World} {cs : Array Value} (hl : cs.size = Try.prog.cellsOf 58) (h : deepOk Try.prog W 8 58 cs.toList) :
    ∃ pr sq k me A m ca B nb cb, cs = #[.int .i64 pr, .int .i64 sq, .int .u8 k, .int .i64 me, .slice A m ca, .slice B nb cb] ∧ ValsHas W A m ∧ BytesHas W B nb := by
  rw [show Try.prog.cellsOf 58 = 6 by kernel_rfl] at hl
  obtain ⟨l⟩ := cs
  match l, hl with
  | [x, y, z, u, v, t], _ =>
    have d0 := deepOk_at Try.underlying58 h 0 3 0 _ _ rfl rfl rfl cells3
    have d1 := deepOk_at Try.underlying58 h 1 3 1 _ _ rfl rfl rfl cells3
    have d2 := deepOk_at Try.underlying58 h 2 56 2 _ _ rfl rfl rfl cells56
    obtain ⟨k, me, A, m, ca, B, nb, cb, e, hA, hB⟩ := opT_in rfl d2
    obtain ⟨pr, hpr, -⟩ := deepOk_int Try.underlying3 d0
    obtain ⟨sq, hsq, -⟩ := deepOk_int Try.underlying3 d1
    injection hpr with hpr
    injection hsq with hsq
    subst hpr hsq
    injection e with e1 e
    injection e with e2 e
    injection e with e3 e
    injection e with e4 e
    subst e1 e2 e3 e4
    exact ⟨pr, sq, k, me, A, m, ca, B, nb, cb, rfl, hA, hB⟩

/-- An announcement, opened. -/
theorem annT_in {W : World} {cs : Array Value} (hl : cs.size = Try.prog.cellsOf 60) (h : deepOk Try.prog W 8 60 cs.toList) :
    ∃ s k me A m ca B nb cb, cs = #[.int .i64 s, .int .u8 k, .int .i64 me, .slice A m ca, .slice B nb cb] ∧ ValsHas W A m ∧ BytesHas W B nb := by
  rw [show Try.prog.cellsOf 60 = 5 by kernel_rfl] at hl
  obtain ⟨l⟩ := cs
  match l, hl with
  | [x, z, u, v, t], _ =>
    have d0 := deepOk_at Try.underlying60 h 0 3 0 _ _ rfl rfl rfl cells3
    have d2 := deepOk_at Try.underlying60 h 1 56 1 _ _ rfl rfl rfl cells56
    obtain ⟨k, me, A, m, ca, B, nb, cb, e, hA, hB⟩ := opT_in rfl d2
    obtain ⟨pr, hpr, -⟩ := deepOk_int Try.underlying3 d0
    injection hpr with hpr
    subst hpr
    injection e with e1 e
    injection e with e2 e
    injection e with e3 e
    injection e with e4 e
    subst e1 e2 e3 e4
    exact ⟨pr, k, me, A, m, ca, B, nb, cb, rfl, hA, hB⟩


theorem opHas_of {W : World} {A : Option Addr} {m : Nat} {B : Option Addr} {n : Nat} (ha : ValsHas W A m) (hb : BytesHas W B n) (hg : greatB m n = false) : ∃ u x, OpHas W A m B n u x := by
  obtain ⟨na, u, lu, va, la⟩ := ha
  obtain ⟨nb, x, lx, vb, lb, rx⟩ := hb
  unfold greatB at hg
  rw [Bool.or_eq_false_iff, decide_eq_false_iff_not, decide_eq_false_iff_not] at hg
  exact ⟨u, x, ⟨na, nb, lu, lx, by omega, by omega, va, vb, rx⟩, la, lb⟩
theorem OpHas.below {V W : World} {A : Option Addr} {m : Nat} {B : Option Addr} {n : Nat} {u : List Val3} {x : List Int} (hb : Below V.heap.size V W) (h : OpHas V A m B n u x) : OpHas W A m B n u x :=
  ⟨h.at'.below hb, fun a e1 e2 => Nat.lt_of_lt_of_le (h.la a e1 e2) hb.size, fun a e1 e2 => Nat.lt_of_lt_of_le (h.lb a e1 e2) hb.size⟩

theorem annTells_walk (i n p q : Int) (c1 c2 : Array Value) (Z : Option Addr) (zl cz : Nat) (w : World) (i1 : -9223372036854775808 ≤ i) (i2 : i ≤ 9223372036854775807)
    (s1 : c1.size = Try.prog.cellsOf 58) (d1 : deepOk Try.prog w 8 58 c1.toList) (s2 : c2.size = Try.prog.cellsOf 60) (d2 : deepOk Try.prog w 8 60 c2.toList) (d3 : deepOk Try.prog w 8 29 [.slice Z zl cz]) :
    Calls Try.prog 7 #[.int .i64 i, .int .i64 n, .int .i64 p, .int .i64 q, .agg c1, .agg c2, .slice Z zl cz] w fun e w' => e = .returned (.bool true) ∧ Below w.heap.size w w' := by
  obtain ⟨pr, sq, k, me, A, m, ca, B, nb, cb, rfl, hA, hB⟩ := entryT_in s1 d1
  obtain ⟨s, ak, ame, AA, am, aca, AB, an, acb, rfl, hAA, hAB⟩ := annT_in s2 d2
  obtain ⟨zs, rfl, hz, hz0⟩ := ints_in d3
  clear d1 d2 d3 s1 s2
  cases h : greatB m nb
  · cases h2 : greatB am an
    · by_cases h3 : 80 < zs.length
      · exact tells_g3 i n p q pr sq k me s ak ame A B AA AB Z m ca nb cb am aca an acb cz zs.length w h h2 (by omega)
      · obtain ⟨u, x, ho⟩ := opHas_of hA hB h
        obtain ⟨au, ax, ha⟩ := opHas_of hAA hAB h2
        have hzW : ∀ W, Below w.heap.size w W → IntsAt W.heap.size W Z zs := fun W hW j hj => by
          obtain ⟨b, off, h1, h2, h3⟩ := hz j hj
          exact ⟨b, off, h1, Nat.lt_of_lt_of_le h2 hW.size, (hW.cell (p := ⟨b, off + j, none⟩) h2).trans h3⟩
        cases hp : pickB i pr s zs
        · exact tells_core i n p q pr sq k me s ak ame A B AA AB Z m ca nb cb am aca an acb cz zs w i1 i2 h h2 (by omega) hz pr sq k me A B m ca nb cb u x
            (fun W hW => refPick_own i pr sq k me s ak ame A B AA AB Z m ca nb cb am aca an acb cz zs W i1 i2 (hzW W hW) (by omega) hp)
            (fun W hW => pick_own i pr sq k me s ak ame A B AA AB Z m ca nb cb am aca an acb cz _ _ _ _ zs W i1 i2 (ho.below hW).opIn (ha.below hW).opIn (hzW W hW) (by omega) hp) ho
        · exact tells_core i n p q pr sq k me s ak ame A B AA AB Z m ca nb cb am aca an acb cz zs w i1 i2 h h2 (by omega) hz (whoseI i zs.length) s ak ame AA AB am aca an acb au ax
            (fun W hW => refPick_help i pr sq k me s ak ame A B AA AB Z m ca nb cb am aca an acb cz zs W i1 i2 (hzW W hW) (by omega) hp)
            (fun W hW => pick_help i pr sq k me s ak ame A B AA AB Z m ca nb cb am aca an acb cz _ _ _ _ zs W i1 i2 (ho.below hW).opIn (ha.below hW).opIn (hzW W hW) (by omega) hp) ha
    · exact tells_g2 i n p q pr sq k me s ak ame A B AA AB Z m ca nb cb am aca an acb cz zs.length w h h2
  · exact tells_g1 i n p q pr sq k me s ak ame A B AA AB Z m ca nb cb am aca an acb cz zs.length w h
#print axioms annTells_walk
end Go.Proofs.Ytkjmnmcekhnkmab
