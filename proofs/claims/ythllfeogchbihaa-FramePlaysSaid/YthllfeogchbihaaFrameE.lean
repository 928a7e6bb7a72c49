/- Frames (package frame): one contract for each function: what a frame answers, and what it is then, by plain functions. -/
import Derived.Test.YthllfeogchbihaaFrameD
namespace Go.Proofs.Ythllfeogchbihaa
open Go.RowKit
set_option linter.unusedSimpArgs false
set_option linter.unusedVariables false

/-! The plain functions. -/
def getB (F : Fr) (i : Int) : Bool := decide (0 ≤ i ∧ i < F.many)
def getV (F : Fr) (i : Int) : V := if getB F i then F.locs[i.toNat]?.getD zv else zv
def setB (F : Fr) (i : Int) (v : V) : Bool := getB F i && decide ((getV F i).1 = v.1)
def setF (F : Fr) (i : Int) (v : V) : Fr := if setB F i v then { F with locs := F.locs.set i.toNat v } else F
def pushB (F : Fr) (v : V) : Bool := kindB v.1 && decide (F.many + F.stk.length < 256)
def pushF (F : Fr) (v : V) : Fr := if pushB F v then { F with stk := F.stk ++ [v] } else F
def topB (F : Fr) : Bool := !F.stk.isEmpty
def topV (F : Fr) : V := F.stk.getLast?.getD zv
def popB (F : Fr) (k : Int) : Bool := topB F && decide (k = 0 ∨ (topV F).1 = k)
def popV (F : Fr) (k : Int) : V := if popB F k then topV F else zv
def popF (F : Fr) (k : Int) : Fr := if popB F k then { F with stk := F.stk.dropLast } else F
def begF (F : Fr) (l t : Int) : Fr := { F with turns := setT F.turns l t }
def agaF (F : Fr) (l : Int) : Fr := if F.turns l = 0 then F else begF F l (F.turns l - 1)
def goF (F : Fr) (p : Int) : Fr := { F with place := p }

/-- A frame made behind the world w; the blocks of K are others. -/
structure FO (w W : World) (fg c : Nat) (F : Fr) (K : Nat → Prop) : Prop where
  ex : ∃ base gm nm A cap, FrAt W base fg gm nm A cap F ∧ nm ≤ c ∧ w.heap.size ≤ gm ∧ ∀ b, K b → b < W.heap.size ∧ ¬ FF fg gm A b
  bw : Below w.heap.size w W
  g1 : w.heap.size ≤ fg
/-- .. still there behind a call that leaves K's blocks alone. -/
def FOk (w W : World) (fg c : Nat) (F : Fr) (K : Nat → Prop) (W' : World) : Prop := FO w W' fg c F K ∧ Touch (fun b => ¬ K b) W W'

section
variable {w W : World} {fg c : Nat} {F : Fr} {K : Nat → Prop}
theorem FO.below (h : FO w W fg c F K) {W' : World} (hb : Below W.heap.size W W') : FO w W' fg c F K := by
  obtain ⟨⟨base, gm, nm, A, cap, h0, h1, h2, h3⟩, k1, k2⟩ := h
  exact ⟨⟨base, gm, nm, A, cap, h0.below hb, h1, h2, fun b hk => ⟨Nat.lt_of_lt_of_le (h3 b hk).1 hb.size, (h3 b hk).2⟩⟩, below_next k1 hb, k2⟩
theorem FO.ok (h : FO w W fg c F K) {W' : World} (hb : Below W.heap.size W W') : FOk w W fg c F K W' := ⟨h.below hb, Touch.of_below hb (Nat.le_refl _) _⟩
theorem FO.drew (h : FO w W fg c F K) : FO w W.drew fg c F K := h.below (below_drew (Below.refl _ _))
theorem FO.drewN (h : FO w W fg c F K) (k : Nat) : FO w (W.drewN k) fg c F K := h.below (below_drewN (Below.refl _ _) k)
theorem FO.mono (h : FO w W fg c F K) {c' : Nat} (hc : c ≤ c') : FO w W fg c' F K := by
  obtain ⟨⟨base, gm, nm, A, cap, h0, h1, h2⟩, k1, k2⟩ := h
  exact ⟨⟨base, gm, nm, A, cap, h0, Nat.le_trans h1 hc, h2⟩, k1, k2⟩
theorem FO.less (h : FO w W fg c F K) {K' : Nat → Prop} (hk : ∀ b, K' b → K b) : FO w W fg c F K' := by
  obtain ⟨⟨base, gm, nm, A, cap, h0, h1, h2, h3⟩, k1, k2⟩ := h
  exact ⟨⟨base, gm, nm, A, cap, h0, h1, h2, fun b hb => h3 b (hk b hb)⟩, k1, k2⟩
theorem FO.alloc (h : FO w W fg c F K) (o : Obj) : FO w (W.alloc o) fg c F (fun b => K b ∨ b = W.heap.size) := by
  have hb : Below W.heap.size W (W.alloc o) := (Below.refl _ _).alloc (Nat.le_refl _) o
  obtain ⟨⟨base, gm, nm, A, cap, h0, h1, h2, h3⟩, k1, k2⟩ := h
  refine ⟨⟨base, gm, nm, A, cap, h0.below hb, h1, h2, ?_⟩, below_next k1 hb, k2⟩
  rintro b (hk | rfl)
  · exact ⟨Nat.lt_of_lt_of_le (h3 b hk).1 hb.size, (h3 b hk).2⟩
  · exact ⟨by simp, fun e => by have := h0.foot _ e; omega⟩
/-- Other blocks have changed. -/
theorem FO.touch (h : FO w W fg c F K) {S : Nat → Prop} {W' : World} (t : Touch S W W') (hs : ∀ b, b < W.heap.size → S b → K b) (hw : ∀ b, S b → w.heap.size ≤ b) : FO w W' fg c F K := by
  obtain ⟨⟨base, gm, nm, A, cap, h0, h1, h2, h3⟩, k1, k2⟩ := h
  refine ⟨⟨base, gm, nm, A, cap, h0.touch t (fun b hb e => (h3 b (hs b (h0.foot b hb) e)).2 hb), h1, h2, fun b hk => ⟨Nat.lt_of_lt_of_le (h3 b hk).1 t.size, (h3 b hk).2⟩⟩, k1.trans (t.below k1.size hw), k2⟩
/-- A step of the frame. -/
theorem FO.step (h : FO w W fg c F K) {base gm nm : Nat} {A : Option Addr} {cap : Nat} (h0 : FrAt W base fg gm nm A cap F) (hg : w.heap.size ≤ gm) (hK : ∀ b, K b → b < W.heap.size ∧ ¬ FF fg gm A b) {S : Nat → Prop} {W' : World} (t : Touch S W W') (hS : ∀ b, S b → FF fg gm A b)
    {nm' c' : Nat} {A' : Option Addr} {cap' : Nat} {F' : Fr} (h1 : FrAt W' base fg gm nm' A' cap' F') (hc : nm' ≤ c') (hA : ∀ a : Addr, A' = some a → W.heap.size ≤ a.block ∨ ∃ a0 : Addr, A = some a0 ∧ a.block = a0.block) : FOk w W fg c' F' K W' := by
  have hf : ∀ b, b < W.heap.size → FF fg gm A' b → FF fg gm A b := by
    rintro b hb (e | e | ⟨a, e, rfl⟩)
    · exact .inl e
    · exact .inr (.inl e)
    · rcases hA a e with h2 | ⟨a0, e2, e3⟩
      · omega
      · exact .inr (.inr ⟨a0, e2, e3⟩)
  refine ⟨⟨⟨base, gm, nm', A', cap', h1, hc, hg, fun b hk => ⟨Nat.lt_of_lt_of_le (hK b hk).1 t.size, fun e => (hK b hk).2 (hf b (hK b hk).1 e)⟩⟩, h.bw.trans (t.below h.bw.size ?_), h.g1⟩, t.mono (fun b _ e hk => (hK b hk).2 (hS b e))⟩
  intro b e
  rcases hS b e with rfl | rfl | ⟨a, ha, rfl⟩
  · exact h.g1
  · exact hg
  · have := (h0.rowBase a ha).1
    have := h0.b1
    have := h.g1
    omega
theorem FO.size (h : FO w W fg c F K) : F.many ≤ 16 ∧ F.stk.length ≤ 256 ∧ F.locs.length = 16 := by
  obtain ⟨base, gm, nm, A, cap, h0, -⟩ := h.ex
  exact ⟨h0.ml, h0.sl, h0.ll⟩
theorem FO.vals (h : FO w W fg c F K) : (∀ v ∈ F.locs, VOk v) ∧ ∀ v ∈ F.stk, VOk v := by
  obtain ⟨base, gm, nm, A, cap, h0, -⟩ := h.ex
  exact ⟨h0.vo, h0.so⟩

theorem fo_size (h : FO w W fg c F K) : Calls Try.prog 15 #[.pointer (some ⟨fg, 0, none⟩)] W fun e W' => e = .returned (.int .i64 ((F.many : Int) + (F.stk.length : Int))) ∧ ∃ k, W' = W.drewN k := by
  obtain ⟨base, gm, nm, A, cap, h0, -⟩ := h.ex
  exact size_at h0
theorem fo_place (h : FO w W fg c F K) : Calls Try.prog 16 #[.pointer (some ⟨fg, 0, none⟩)] W fun e W' => e = .returned (.int .i64 F.place) ∧ W' = W := by
  obtain ⟨base, gm, nm, A, cap, h0, -⟩ := h.ex
  exact place_at h0
theorem fo_go (h : FO w W fg c F K) (p : Int) : Calls Try.prog 21 #[.pointer (some ⟨fg, 0, none⟩), .int .i64 p] W fun e W' => e = .returned (.tuple #[]) ∧ FOk w W fg c (goF F p) K W' := by
  obtain ⟨base, gm, nm, A, cap, h0, h1, h2, h3⟩ := h.ex
  refine (go_at h0 p).mono ?_
  rintro e W' ⟨rfl, hw⟩
  obtain ⟨t, h4⟩ := h0.setPlace p hw
  exact ⟨rfl, h.step h0 h2 h3 t (fun b e => .inl e) h4 h1 (fun a e => .inr ⟨a, e, rfl⟩)⟩
theorem fo_begin (h : FO w W fg c F K) (l t : Int) (hl : I64 l) (ht : I64 t) (hc : c < 1000000) :
    Calls Try.prog 9 #[.pointer (some ⟨fg, 0, none⟩), .int .i64 l, .int .i64 t] W fun e W' => e = .returned (.tuple #[]) ∧ FOk w W fg (c + 1) (begF F l t) K W' := by
  obtain ⟨base, gm, nm, A, cap, h0, h1, h2, h3⟩ := h.ex
  refine (begin_at h0 l t hl ht (by omega)).mono ?_
  rintro e W' ⟨rfl, ht, h4⟩
  exact ⟨rfl, h.step h0 h2 h3 ht (fun b e => .inr (.inl e)) h4 (by omega) (fun a e => .inr ⟨a, e, rfl⟩)⟩
theorem fo_again (h : FO w W fg c F K) (l : Int) (hl : I64 l) (hc : c < 1000000) :
    Calls Try.prog 10 #[.pointer (some ⟨fg, 0, none⟩), .int .i64 l] W fun e W' => e = .returned (.tuple #[.bool (decide (1 < F.turns l)), .bool (decide (0 < F.turns l))]) ∧ FOk w W fg (c + 1) (agaF F l) K W' := by
  obtain ⟨base, gm, nm, A, cap, h0, h1, h2, h3⟩ := h.ex
  have htw := h0.tw l
  by_cases e0 : F.turns l = 0
  · refine (again_no h0 l hl e0).mono ?_
    rintro e W' ⟨rfl, rfl⟩
    have : agaF F l = F := by unfold agaF; rw [if_pos e0]
    rw [this, e0]
    exact ⟨rfl, (h.mono (by omega)).ok (Below.refl _ _)⟩
  · refine (again_yes h0 l hl e0 (by omega)).mono ?_
    rintro e W' ⟨rfl, ht, h4⟩
    have : agaF F l = begF F l (F.turns l - 1) := by unfold agaF; rw [if_neg e0]
    rw [this, decide_eq_true (show 0 < F.turns l by omega)]
    exact ⟨rfl, h.step h0 h2 h3 ht (fun b e => .inr (.inl e)) h4 (by omega) (fun a e => .inr ⟨a, e, rfl⟩)⟩
theorem fo_get (h : FO w W fg c F K) (i : Int) : Calls Try.prog 14 #[.pointer (some ⟨fg, 0, none⟩), .int .i64 i] W fun e W' => e = .returned (.tuple #[vagg (getV F i), .bool (getB F i)]) ∧ Below W.heap.size W W' := by
  obtain ⟨base, gm, nm, A, cap, h0, -⟩ := h.ex
  by_cases hi : 0 ≤ i ∧ i < F.many
  · obtain ⟨k, rfl⟩ := Int.eq_ofNat_of_zero_le hi.1
    have hk : k < F.locs.length := by rw [h0.ll]; have := h0.ml; omega
    have e1 : getB F k = true := decide_eq_true hi
    have e2 : getV F k = F.locs[k] := by unfold getV; rw [e1, if_pos rfl, Int.toNat_natCast, List.getElem?_eq_getElem hk, Option.getD_some]
    rw [e1, e2]
    exact get_yes h0 (by omega) hk
  · have e1 : getB F i = false := decide_eq_false hi
    have e2 : getV F i = zv := by unfold getV; rw [e1]; rfl
    rw [e1, e2]
    exact get_no h0 (by omega)
theorem fo_set (h : FO w W fg c F K) (i : Int) (v : V) (hv : VOk v) : Calls Try.prog 22 #[.pointer (some ⟨fg, 0, none⟩), .int .i64 i, vagg v] W fun e W' => e = .returned (.bool (setB F i v)) ∧ FOk w W fg c (setF F i v) K W' := by
  obtain ⟨base, gm, nm, A, cap, h0, h1, h2, h3⟩ := h.ex
  by_cases hi : 0 ≤ i ∧ i < F.many
  · obtain ⟨k, rfl⟩ := Int.eq_ofNat_of_zero_le hi.1
    have hk : k < F.locs.length := by rw [h0.ll]; have := h0.ml; omega
    have e1 : getB F k = true := decide_eq_true hi
    have e2 : getV F k = F.locs[k] := by unfold getV; rw [e1, if_pos rfl, Int.toNat_natCast, List.getElem?_eq_getElem hk, Option.getD_some]
    by_cases hkd : F.locs[k].1 = v.1
    · have e3 : setB F k v = true := by unfold setB; rw [e1, e2, decide_eq_true hkd]; rfl
      have e4 : setF F k v = { F with locs := F.locs.set k v } := by unfold setF; rw [e3, if_pos rfl, Int.toNat_natCast]
      rw [e3, e4]
      refine (set_yes h0 (by omega) hk v hv hkd).mono ?_
      rintro e W' ⟨rfl, ht, h4⟩
      exact ⟨rfl, h.step h0 h2 h3 ht (fun b e => .inl e) h4 h1 (fun a e => .inr ⟨a, e, rfl⟩)⟩
    · have e3 : setB F k v = false := by unfold setB; rw [e1, e2, decide_eq_false hkd]; rfl
      have e4 : setF F k v = F := by unfold setF; rw [e3]; rfl
      rw [e3, e4]
      refine (set_no h0 v (.inr ⟨k, rfl, by omega, hk, hkd⟩)).mono ?_
      rintro e W' ⟨rfl, hb⟩
      exact ⟨rfl, h.ok hb⟩
  · have e1 : getB F i = false := decide_eq_false hi
    have e3 : setB F i v = false := by unfold setB; rw [e1]; rfl
    have e4 : setF F i v = F := by unfold setF; rw [e3]; rfl
    rw [e3, e4]
    refine (set_no h0 v (.inl (by omega))).mono ?_
    rintro e W' ⟨rfl, hb⟩
    exact ⟨rfl, h.ok hb⟩
theorem fo_push (h : FO w W fg c F K) (v : V) (hv : VOk v) : Calls Try.prog 11 #[.pointer (some ⟨fg, 0, none⟩), vagg v] W fun e W' => e = .returned (.bool (pushB F v)) ∧ FOk w W fg c (pushF F v) K W' := by
  obtain ⟨base, gm, nm, A, cap, h0, h1, h2, h3⟩ := h.ex
  cases hb : pushB F v with
  | true =>
    have e4 : pushF F v = { F with stk := F.stk ++ [v] } := by unfold pushF; rw [hb, if_pos rfl]
    rw [e4]
    unfold pushB at hb
    simp only [Bool.and_eq_true, decide_eq_true_eq] at hb
    refine (push_yes h0 v hv hb.1 hb.2).mono ?_
    rintro e W' ⟨A', cap', rfl, ht, hA, h4⟩
    exact ⟨rfl, h.step h0 h2 h3 ht (fun b e => by rcases e with e | e; exact .inl e; exact .inr (.inr e)) h4 h1 hA⟩
  | false =>
    have e4 : pushF F v = F := by unfold pushF; rw [hb]; rfl
    rw [e4]
    refine (push_no h0 v hv ?_).mono ?_
    · unfold pushB at hb
      cases hk : kindB v.1 with
      | false => exact .inl rfl
      | true =>
        rw [hk, Bool.true_and] at hb
        have := of_decide_eq_false hb
        exact .inr (by omega)
    · rintro e W' ⟨rfl, hb⟩
      exact ⟨rfl, h.ok hb⟩
theorem fo_top (h : FO w W fg c F K) : Calls Try.prog 13 #[.pointer (some ⟨fg, 0, none⟩)] W fun e W' => e = .returned (.tuple #[vagg (topV F), .bool (topB F)]) ∧ Below W.heap.size W W' := by
  obtain ⟨base, gm, nm, A, cap, h0, -⟩ := h.ex
  rcases List.eq_nil_or_concat F.stk with e | ⟨l, v, e⟩
  · have e1 : topB F = false := by unfold topB; rw [e]; rfl
    have e2 : topV F = zv := by unfold topV; rw [e]; rfl
    rw [e1, e2]
    exact top_no h0 e
  · rw [List.concat_eq_append] at e
    have e1 : topB F = true := by unfold topB; rw [e]; simp
    have e2 : topV F = v := by unfold topV; rw [e]; simp
    rw [e1, e2]
    exact top_yes h0 e
theorem fo_pop (h : FO w W fg c F K) (k : Int) (hk : 0 ≤ k ∧ k ≤ 255) : Calls Try.prog 12 #[.pointer (some ⟨fg, 0, none⟩), .int .u8 k] W fun e W' => e = .returned (.tuple #[vagg (popV F k), .bool (popB F k)]) ∧ FOk w W fg c (popF F k) K W' := by
  obtain ⟨base, gm, nm, A, cap, h0, h1, h2, h3⟩ := h.ex
  have hno : popB F k = false → (F.stk = [] ∨ ∃ l v, F.stk = l ++ [v] ∧ k ≠ 0 ∧ v.1 ≠ k) → Calls Try.prog 12 #[.pointer (some ⟨fg, 0, none⟩), .int .u8 k] W fun e W' => e = .returned (.tuple #[vagg (popV F k), .bool (popB F k)]) ∧ FOk w W fg c (popF F k) K W' := by
    intro hb hn
    have e4 : popF F k = F := by unfold popF; rw [hb]; rfl
    have e5 : popV F k = zv := by unfold popV; rw [hb]; rfl
    rw [e4, e5, hb]
    refine (pop_no h0 k hk hn).mono ?_
    rintro e W' ⟨rfl, hb⟩
    exact ⟨rfl, h.ok hb⟩
  rcases List.eq_nil_or_concat F.stk with e | ⟨l, v, e⟩
  · have e1 : topB F = false := by unfold topB; rw [e]; rfl
    exact hno (by unfold popB; rw [e1]; rfl) (.inl e)
  · rw [List.concat_eq_append] at e
    have e1 : topB F = true := by unfold topB; rw [e]; simp
    have e2 : topV F = v := by unfold topV; rw [e]; simp
    by_cases hkd : k = 0 ∨ v.1 = k
    · have e3 : popB F k = true := by unfold popB; rw [e1, e2, decide_eq_true hkd]; rfl
      have e4 : popF F k = { F with stk := l } := by unfold popF; rw [e3, if_pos rfl, e, List.dropLast_concat]
      have e5 : popV F k = v := by unfold popV; rw [e3, if_pos rfl, e2]
      rw [e3, e4, e5]
      refine (pop_yes h0 k hk e hkd).mono ?_
      rintro e W' ⟨rfl, ht, h4⟩
      exact ⟨rfl, h.step h0 h2 h3 ht (fun b e => .inl e) h4 h1 (fun a e => .inr ⟨a, e, rfl⟩)⟩
    · refine hno (by unfold popB; rw [e1, e2, decide_eq_false hkd]; rfl) (.inr ⟨l, v, e, ?_, ?_⟩)
      · exact fun e => hkd (.inl e)
      · exact fun e => hkd (.inr e)

/-- New. -/
theorem fo_new (w : World) (A0 A1 A2 : Option Addr) (n0 n1 n2 c0 c1 c2 : Nat) (ks ls : List Int) (vs : List V) (hA0 : BytesAt w A0 n0 ks) (hA1 : BytesAt w A1 n1 ls) (hA2 : VsAt w A2 n2 vs) (b0 : n0 ≤ 100000) (b1 : n1 ≤ 100000) (b2 : n2 ≤ 100000) (hok : NewOk ks ls vs) :
    Calls Try.prog 8 #[.slice A0 n0 c0, .slice A1 n1 c1, .slice A2 n2 c2] w fun e W => ∃ fg, e = .returned (.tuple #[.pointer (some ⟨fg, 0, none⟩), .int .i64 0]) ∧ FO w W fg 0 (newFr ks ls vs) (fun b => b < w.heap.size) := by
  refine (new_any w A0 A1 A2 n0 n1 n2 c0 c1 c2 ks ls vs hA0 hA1 hA2 b0 b1 b2).mono ?_
  rintro e W (⟨-, base, fg, gm, rfl, hb, h1, h2, h3⟩ | ⟨h, -⟩)
  · refine ⟨fg, rfl, ⟨base, gm, 0, none, 0, h3, Nat.le_refl _, h2, fun b hb2 => ⟨Nat.lt_of_lt_of_le hb2 hb.size, ?_⟩⟩, hb, h1⟩
    rintro (e | e | ⟨a, e, -⟩)
    · omega
    · omega
    · cases e
  · exact absurd hok h
theorem fo_new_no (w : World) (A0 A1 A2 : Option Addr) (n0 n1 n2 c0 c1 c2 : Nat) (ks ls : List Int) (vs : List V) (hA0 : BytesAt w A0 n0 ks) (hA1 : BytesAt w A1 n1 ls) (hA2 : VsAt w A2 n2 vs) (b0 : n0 ≤ 100000) (b1 : n1 ≤ 100000) (b2 : n2 ≤ 100000) (hok : ¬ NewOk ks ls vs) :
    Calls Try.prog 8 #[.slice A0 n0 c0, .slice A1 n1 c1, .slice A2 n2 c2] w fun e W => e = .returned (.tuple #[.pointer none, .int .i64 2]) ∧ Below w.heap.size w W := by
  refine (new_any w A0 A1 A2 n0 n1 n2 c0 c1 c2 ks ls vs hA0 hA1 hA2 b0 b1 b2).mono ?_
  rintro e W (⟨h, -⟩ | ⟨-, rfl, hb⟩)
  · exact absurd h hok
  · exact ⟨rfl, hb⟩
end
end Go.Proofs.Ythllfeogchbihaa
