/- HeapPlays: the program's heap and the document's one side by side: one contract for each call. -/
import Derived.Test.YthllfeogchbihabHeapR
namespace Go.Proofs.Ythllfeogchbihab
open Go.RowKit Go.Shelf
set_option linter.unusedSimpArgs false
set_option linter.unusedVariables false

theorem rnew_no (n : Int) (w : World) (h : n < 0 ∨ 1024 < n) : Calls Try.prog 13 #[.int .i64 n] w fun e w' => e = .returned (.tuple #[.pointer none, .int .i64 2]) ∧ w' = w := by
  by_cases h1 : n < 0
  · go_enter Try.func13, Try.ntmps13
    go_wp2_with fail
    go_ret2
    exact ⟨rfl, rfl⟩
  · have h2 : 1024 < n := by omega
    go_enter Try.func13, Try.ntmps13
    go_wp2_with fail
    go_ret2
    exact ⟨rfl, rfl⟩

/-- What the document's New comes to. -/
def RNew (w : World) (n : Nat) (e : Ending) (w' : World) : Prop :=
  ∃ rh v gs, e = .returned (.tuple #[.pointer (some ⟨rh, 0, none⟩), .int .i64 0]) ∧ Below w.heap.size w w' ∧ w.heap.size ≤ rh ∧ RefAt w' w.heap.size rh n v gs [[]] ∧ ∀ b, FW v gs 1 b → w.heap.size ≤ b

theorem rnew_yes (n : Nat) (w : World) (h2 : n ≤ 1024) : Calls Try.prog 13 #[.int .i64 n] w fun e w' => RNew w n e w' := by
  have n1 : (n : Int) ≤ 1024 := by omega
  have n0 : (0 : Int) ≤ (n : Int) := by omega
  go_enter Try.func13, Try.ntmps13
  go_wp2_with fail
  go_ret2
  obtain ⟨w1, hw1⟩ : ∃ w1, w.alloc (.cells #[] 2) = w1 := ⟨_, rfl⟩
  have hs1 : w1.heap.size = w.heap.size + 1 := by rw [← hw1]; simp
  have b1 : Below w.heap.size w w1 := by rw [← hw1]; exact (Below.refl _ _).alloc (Nat.le_refl _) _
  have k1 : Blk w1 w.heap.size [] := by rw [← hw1]; exact Blk.new w #[] 2
  obtain ⟨w2, hw2⟩ : ∃ w2, w1.alloc (.cells #[.slice (some ⟨w.heap.size, 0, none⟩) 0 0] 25) = w2 := ⟨_, rfl⟩
  have hs2 : w2.heap.size = w.heap.size + 2 := by rw [← hw2]; simp [hs1]
  have b2 : Below w.heap.size w w2 := by rw [← hw2]; exact b1.alloc (by omega) _
  have k2 : Blk w2 w.heap.size [] := by rw [← hw2]; exact k1.alloc _
  have r2 : w2.ownsRow w.heap.size 25 1 (.slice (some ⟨w1.heap.size, 0, none⟩) 1 1) 1 [.slice (some ⟨w.heap.size, 0, none⟩) 0 0] := by
    rw [← hw2]
    exact ⟨rfl, .inr ⟨w1.heap.size, 1, #[.slice (some ⟨w.heap.size, 0, none⟩) 0 0], rfl, by omega, heap_alloc_new w1 _, Nat.le_refl _, by unfold maxLen; omega, rfl, rfl⟩⟩
  have hE : w.heap.size + 1 = w1.heap.size := hs1.symm
  have hW : (((w.alloc (.cells #[] 2)).alloc (.cells #[.slice (some ⟨w.heap.size, 0, none⟩) 0 0] 25)).alloc (.cells #[.int .i64 n, .slice (some ⟨w.heap.size + 1, 0, none⟩) 1 1] 59)) = w2.alloc (.cells #[.int .i64 n, .slice (some ⟨w1.heap.size, 0, none⟩) 1 1] 59) := by
    rw [← hw2, ← hw1]; simp
  rw [hW]
  have k3 : Blk (w2.alloc (.cells #[.int .i64 n, .slice (some ⟨w1.heap.size, 0, none⟩) 1 1] 59)) w.heap.size [] := k2.alloc _
  have k4 := Blk.new w2 #[.int .i64 n, .slice (some ⟨w1.heap.size, 0, none⟩) 1 1] 59
  have r3 := r2.alloc (.cells #[.int .i64 n, .slice (some ⟨w1.heap.size, 0, none⟩) 1 1] 59)
  have b3 : Below w.heap.size w (w2.alloc (.cells #[.int .i64 n, .slice (some ⟨w1.heap.size, 0, none⟩) 1 1] 59)) := b2.alloc (by omega) _
  refine ⟨w2.heap.size, .slice (some ⟨w1.heap.size, 0, none⟩) 1 1, fun _ => w.heap.size, by rw [hs2]; rfl, b3, by omega, ⟨k4, ⟨r3, ?_, ?_, ?_, ?_⟩, ?_, by simp, h2, by simp⟩, ?_⟩
  · intro k hk
    obtain rfl : k = 0 := by simpa using hk
    exact k3
  · intro i j hi hj _
    simp at hi hj
    omega
  · intro k hk e
    have e : w1.heap.size = w.heap.size := by injection e
    omega
  · intro k hk
    exact Nat.le_refl _
  · rintro (e | ⟨k, -, e⟩)
    · have e : w1.heap.size = w2.heap.size := by injection e
      omega
    · have e : w2.heap.size = w.heap.size := e
      omega
  · rintro b (e | ⟨k, -, rfl⟩)
    · have e : w1.heap.size = b := by injection e
      omega
    · exact Nat.le_refl _

/-- The document's Make, whatever is asked for. -/
theorem rmake_at {W : World} {base rh room : Nat} {v : Value} {gs : Nat → Nat} {rs : List (List Int)} (h : RefAt W base rh room v gs rs) (n : Int) (hml : rs.length < 5000) (hbs : base ≤ W.heap.size) :
    Calls Try.prog 14 #[.pointer (some ⟨rh, 0, none⟩), .int .i64 n] W fun e W' => RMade W base rh room v gs rs n e W' := by
  by_cases h1 : n < 0 ∨ 1024 < n
  · exact rmake_arg h n h1
  · obtain ⟨k, rfl⟩ := Int.eq_ofNat_of_zero_le (show 0 ≤ n by omega)
    by_cases h2 : room < rs.flatten.length + k
    · exact rmake_full h k (by omega) h2
    · exact rmake_ok h k (by omega) (by omega) hml h.rb.l hbs

/-- Both heaps, apart, and blocks that are kept. -/
structure RP (w W : World) (gh gw rh room : Nat) (hs rs : List (List Int)) (K : Nat → List Value → Prop) : Prop where
  ex : ∃ base A cap v gs, HeapAt W gh gw base room hs A cap ∧ RefAt W w.heap.size rh room v gs ([] :: rs) ∧ (∀ b, FW v gs (rs.length + 1) b → ¬ FH gh gw A b) ∧ ¬ FH gh gw A rh ∧
    ∀ b vs, K b vs → Blk W b vs ∧ ¬ FH gh gw A b ∧ ¬ FW v gs (rs.length + 1) b ∧ b ≠ rh
  bw : Below w.heap.size w W
  g1 : w.heap.size ≤ gh
  g2 : w.heap.size ≤ gw
  g3 : w.heap.size ≤ rh

section
variable {w W : World} {gh gw rh room : Nat} {hs rs : List (List Int)} {K : Nat → List Value → Prop}
theorem RP.kept (h : RP w W gh gw rh room hs rs K) {b : Nat} {vs : List Value} (hk : K b vs) : Blk W b vs := by
  obtain ⟨base, A, cap, v, gs, h0, h1, h2, h3, h4⟩ := h.ex
  exact (h4 b vs hk).1
theorem RP.below (h : RP w W gh gw rh room hs rs K) {W' : World} (hb : Below W.heap.size W W') : RP w W' gh gw rh room hs rs K := by
  obtain ⟨⟨base, A, cap, v, gs, h0, h1, h2, h3, h4⟩, k1, k2, k3, k4⟩ := h
  exact ⟨⟨base, A, cap, v, gs, h0.below hb, h1.below hb, h2, h3, fun b vs hk => ⟨(h4 b vs hk).1.below hb, (h4 b vs hk).2⟩⟩, below_next k1 hb, k2, k3, k4⟩
theorem RP.drewN (h : RP w W gh gw rh room hs rs K) (k : Nat) : RP w (W.drewN k) gh gw rh room hs rs K := by
  have h0 := Below.refl W.heap.size W
  exact h.below ⟨h0.os, h0.tape, h0.output, h0.size, h0.block⟩
theorem RP.drew (h : RP w W gh gw rh room hs rs K) : RP w W.drew gh gw rh room hs rs K := h.drewN 1
theorem RP.drop (h : RP w W gh gw rh room hs rs K) : RP w W gh gw rh room hs rs (fun _ _ => False) := by
  obtain ⟨⟨base, A, cap, v, gs, h0, h1, h2, h3, h4⟩, k1, k2, k3, k4⟩ := h
  exact ⟨⟨base, A, cap, v, gs, h0, h1, h2, h3, fun _ _ e => e.elim⟩, k1, k2, k3, k4⟩
theorem RP.alloc (h : RP w W gh gw rh room hs rs K) (cs : Array Value) (t : TypeId) : RP w (W.alloc (.cells cs t)) gh gw rh room hs rs (fun b vs => b = W.heap.size ∧ vs = cs.toList) := by
  have hb : Below W.heap.size W (W.alloc (.cells cs t)) := (Below.refl _ _).alloc (Nat.le_refl _) _
  obtain ⟨⟨base, A, cap, v, gs, h0, h1, h2, h3, h4⟩, k1, k2, k3, k4⟩ := h
  refine ⟨⟨base, A, cap, v, gs, h0.below hb, h1.below hb, h2, h3, ?_⟩, below_next k1 hb, k2, k3, k4⟩
  rintro b vs ⟨rfl, rfl⟩
  exact ⟨Blk.new W cs t, fun e => by have := h0.foot _ e; omega, fun e => by have := (h1.wa.foot _ e).2; omega, fun e => by have := h1.rb.l; omega⟩

/-! Make -/
theorem rp_hmake (h : RP w W gh gw rh room hs rs K) (n : Int) (hl : hs.length < 5000) :
    Calls Try.prog 7 #[.pointer (some ⟨gh, 0, none⟩), .int .i64 n] W fun e W' => e = .returned (.tuple #[.int .i64 (mkRef room hs n), .int .i64 (mkErr room hs n)]) ∧ RP w W' gh gw rh room (mkArrs room hs n) rs K := by
  obtain ⟨⟨base, A, cap, v, gs, h0, h1, h2, h3, h4⟩, k1, k2, k3, k4⟩ := h
  refine (make_at h0 n hl).mono ?_
  rintro e W' ⟨A', cap', rfl, ht, hA, hh⟩
  have hm : ∀ b, FM gh A b → FH gh gw A b := by
    rintro b (rfl | ⟨a, e, rfl⟩)
    · exact .inl rfl
    · exact .inr (.inr ⟨a, e, rfl⟩)
  have hn : ∀ b, b < W.heap.size → FH gh gw A' b → FH gh gw A b := by
    rintro b hb (rfl | rfl | ⟨a, e, rfl⟩)
    · exact .inl rfl
    · exact .inr (.inl rfl)
    · rcases hA with rfl | hA
      · exact .inr (.inr ⟨a, e, rfl⟩)
      · have := hA a e; omega
  refine ⟨rfl, ⟨_, _, _, v, gs, hh, h1.touch ht (fun e => h3 (hm _ e)) (fun b hb e => h2 b hb (hm _ e)), fun b hb e => h2 b hb (hn b (h1.wa.foot b hb).2 e), fun e => h3 (hn _ h1.rb.l e), fun b vs hk => ?_⟩, k1.trans (ht.below k1.size ?_), k2, k3, k4⟩
  · obtain ⟨j1, j2, j3, j4⟩ := h4 b vs hk
    exact ⟨j1.touch ht (fun e => j2 (hm _ e)), fun e => j2 (hn b j1.l e), j3, j4⟩
  · rintro k (rfl | ⟨a, e, rfl⟩)
    · exact k2
    · have := h0.rowBase a e; have := h0.b1; omega
theorem mkArrs_cons (n : Int) : mkArrs room ([] :: rs) n = [] :: mkArrs room rs n := by
  have e : fitsB room ([] :: rs) n = fitsB room rs n := by unfold fitsB; simp
  unfold mkArrs
  rw [e]
  split <;> simp
theorem mkErr_cons (n : Int) : mkErr room ([] :: rs) n = mkErr room rs n := by
  have e : fitsB room ([] :: rs) n = fitsB room rs n := by unfold fitsB; simp
  unfold mkErr
  rw [e]
theorem rkRef_cons (n : Int) : rkRef room ([] :: rs) n = mkRef room rs n := by
  have e : fitsB room ([] :: rs) n = fitsB room rs n := by unfold fitsB; simp
  unfold rkRef mkRef
  rw [e]
  split <;> simp
theorem rp_rmake (h : RP w W gh gw rh room hs rs K) (n : Int) (hl : rs.length < 4999) :
    Calls Try.prog 14 #[.pointer (some ⟨rh, 0, none⟩), .int .i64 n] W fun e W' => e = .returned (.tuple #[.int .i64 (mkRef room rs n), .int .i64 (mkErr room rs n)]) ∧ RP w W' gh gw rh room hs (mkArrs room rs n) K := by
  obtain ⟨⟨base, A, cap, v, gs, h0, h1, h2, h3, h4⟩, k1, k2, k3, k4⟩ := h
  refine (rmake_at h1 n (by simp; omega) k1.size).mono ?_
  rintro e W' ⟨v', gs', rfl, ht, hh, hn⟩
  rw [mkArrs_cons] at hh hn
  rw [mkErr_cons, rkRef_cons]
  have hT : ∀ b, (b = rh ∨ v.ownBlock = some b) → b = rh ∨ FW v gs (rs.length + 1) b := by
    rintro b (rfl | e)
    · exact .inl rfl
    · exact .inr (.inl e)
  refine ⟨rfl, ⟨base, A, cap, v', gs', h0.touch ht (fun b hb e => ?_), hh, fun b hb e => ?_, h3, fun b vs hk => ?_⟩, k1.trans (ht.below k1.size ?_), k2, k3, k4⟩
  · rcases hT b e with rfl | e
    · exact h3 hb
    · exact h2 b e hb
  · rcases hn b hb with e2 | e2
    · exact h2 b e2 e
    · have := h0.foot _ e; omega
  · obtain ⟨j1, j2, j3, j4⟩ := h4 b vs hk
    refine ⟨j1.touch ht (fun e => ?_), j2, fun e => ?_, j4⟩
    · rcases hT b e with rfl | e
      · exact j4 rfl
      · exact j3 e
    · rcases hn b e with e2 | e2
      · exact j3 e2
      · have := j1.l; omega
  · intro k e
    rcases hT k e with rfl | e
    · exact k4
    · exact (h1.wa.foot k e).1

/-! At, Put, Len, Used -/
def ansB (arrs : List (List Int)) (ref i : Int) : Bool := (plA arrs ref i).isSome
def ansV (arrs : List (List Int)) (ref i : Int) : Int := match plA arrs ref i with | some (k, j) => ((arrs[k]?.getD [])[j]?).getD 0 | none => 0
def ansP (arrs : List (List Int)) (ref i x : Int) : List (List Int) := match plA arrs ref i with | some (k, j) => arrs.set k ((arrs[k]?.getD []).set j x) | none => arrs
theorem ansP_length (arrs : List (List Int)) (ref i x : Int) : (ansP arrs ref i x).length = arrs.length := by
  unfold ansP
  split <;> simp

theorem plR_cons {ref i : Int} : plR ([] :: rs) ref i = ansB rs ref i := by
  unfold ansB
  cases hp : plA rs ref i with
  | none =>
    refine decide_eq_false ?_
    rintro ⟨c1, c2, c3, c4⟩
    obtain ⟨k, rfl⟩ := Int.eq_ofNat_of_zero_le c1
    rw [Int.toNat_natCast] at c4
    cases k with
    | zero => simp at c4; omega
    | succ k =>
      have hk : k < rs.length := by simp at c2; omega
      have := plA_none hp (by omega) c3 hk (by simp)
      rw [List.getElem?_cons_succ, List.getElem?_eq_getElem hk, Option.getD_some] at c4
      omega
  | some p =>
    obtain ⟨k, j⟩ := p
    obtain ⟨rfl, rfl, hk, hj⟩ := plA_some hp
    refine decide_eq_true ?_
    have e : ((k : Int) + 1).toNat = k + 1 := by omega
    rw [e, List.getElem?_cons_succ, List.getElem?_eq_getElem hk, Option.getD_some]
    simp only [List.length_cons]
    omega

theorem rp_hat (h : RP w W gh gw rh room hs rs K) (ref i : Int) :
    Calls Try.prog 8 #[.pointer (some ⟨gh, 0, none⟩), .int .i64 ref, .int .i64 i] W fun e W' => e = .returned (.tuple #[.int .i64 (ansV hs ref i), .bool (ansB hs ref i)]) ∧ RP w W' gh gw rh room hs rs K := by
  obtain ⟨base, A, cap, v, gs, h0, -⟩ := h.ex
  unfold ansV ansB
  cases hp : plA hs ref i with
  | none =>
    refine (at_no h0 hp).mono ?_
    rintro e W' ⟨rfl, hb⟩
    exact ⟨rfl, h.below hb⟩
  | some p =>
    obtain ⟨k, j⟩ := p
    obtain ⟨rfl, rfl, hk, hj⟩ := plA_some hp
    refine (at_yes h0 hk hj).mono ?_
    rintro e W' ⟨rfl, hb⟩
    refine ⟨?_, h.below hb⟩
    simp only [List.getElem?_eq_getElem hk, Option.getD_some, List.getElem?_eq_getElem hj]
    rfl
theorem rp_rat (h : RP w W gh gw rh room hs rs K) (ref i : Int) :
    Calls Try.prog 16 #[.pointer (some ⟨rh, 0, none⟩), .int .i64 ref, .int .i64 i] W fun e W' => e = .returned (.tuple #[.int .i64 (ansV rs ref i), .bool (ansB rs ref i)]) ∧ W' = W := by
  obtain ⟨base, A, cap, v, gs, h0, h1, -⟩ := h.ex
  have hq : plR ([] :: rs) ref i = ansB rs ref i := plR_cons
  unfold ansV
  unfold ansB at hq ⊢
  cases hp : plA rs ref i with
  | none =>
    rw [hp] at hq
    exact rat_no h1 hq
  | some p =>
    obtain ⟨k, j⟩ := p
    rw [hp] at hq
    obtain ⟨rfl, rfl, hk, hj⟩ := plA_some hp
    have e : ((k : Int) + 1) = ((k + 1 : Nat) : Int) := by omega
    rw [e] at hq ⊢
    have := rat_yes h1 (k := k + 1) (j := j) (by simpa using hk) (by simpa using hj) hq
    simp only [List.getElem?_eq_getElem hk, Option.getD_some, List.getElem?_eq_getElem hj]
    exact this
theorem rp_hput (h : RP w W gh gw rh room hs rs K) (ref i x : Int) :
    Calls Try.prog 10 #[.pointer (some ⟨gh, 0, none⟩), .int .i64 ref, .int .i64 i, .int .i64 x] W fun e W' => e = .returned (.bool (ansB hs ref i)) ∧ RP w W' gh gw rh room (ansP hs ref i x) rs K := by
  have hh := h
  obtain ⟨⟨base, A, cap, v, gs, h0, h1, h2, h3, h4⟩, k1, k2, k3, k4⟩ := h
  unfold ansB ansP
  cases hp : plA hs ref i with
  | none =>
    refine (put_no h0 x hp).mono ?_
    rintro e W' ⟨rfl, hb⟩
    exact ⟨rfl, hh.below hb⟩
  | some p =>
    obtain ⟨k, j⟩ := p
    obtain ⟨rfl, rfl, hk, hj⟩ := plA_some hp
    refine (put_yes h0 x hk hj).mono ?_
    rintro e W' ⟨rfl, ht, h0'⟩
    simp only [List.getElem?_eq_getElem hk, Option.getD_some]
    have hg : ∀ b, b = gw → FH gh gw A b := fun b e => .inr (.inl e)
    refine ⟨rfl, ⟨_, _, _, v, gs, h0', h1.touch ht (fun e => h3 (hg _ e)) (fun b hb e => h2 b hb (hg _ e)), h2, h3, fun b vs hk => ?_⟩, k1.trans (ht.below k1.size ?_), k2, k3, k4⟩
    · obtain ⟨j1, j2, j3⟩ := h4 b vs hk
      exact ⟨j1.touch ht (fun e => j2 (hg _ e)), j2, j3⟩
    · rintro k rfl
      exact k3
theorem rp_rput (h : RP w W gh gw rh room hs rs K) (ref i x : Int) :
    Calls Try.prog 15 #[.pointer (some ⟨rh, 0, none⟩), .int .i64 ref, .int .i64 i, .int .i64 x] W fun e W' => e = .returned (.bool (ansB rs ref i)) ∧ RP w W' gh gw rh room hs (ansP rs ref i x) K := by
  have hh := h
  obtain ⟨⟨base, A, cap, v, gs, h0, h1, h2, h3, h4⟩, k1, k2, k3, k4⟩ := h
  have hq : plR ([] :: rs) ref i = ansB rs ref i := plR_cons
  unfold ansP
  unfold ansB at hq ⊢
  cases hp : plA rs ref i with
  | none =>
    rw [hp] at hq
    refine (rput_no h1 x hq).mono ?_
    rintro e W' ⟨rfl, rfl⟩
    exact ⟨rfl, hh⟩
  | some p =>
    obtain ⟨k, j⟩ := p
    rw [hp] at hq
    obtain ⟨rfl, rfl, hk, hj⟩ := plA_some hp
    have e : ((k : Int) + 1) = ((k + 1 : Nat) : Int) := by omega
    rw [e] at hq ⊢
    have hk' : k + 1 < ([] :: rs).length := by simpa using hk
    refine (rput_yes h1 (k := k + 1) (j := j) x hk' (by simpa using hj) hq).mono ?_
    rintro e W' ⟨rfl, rfl⟩
    have hst := h1.store (k := k + 1) (j := j) x hk' (by simpa using hj)
    have hFW : FW v gs (rs.length + 1) (gs (k + 1)) := .inr ⟨k + 1, by omega, rfl⟩
    have ht : Touch (fun b => b = gs (k + 1)) W (W.setCell ⟨gs (k + 1), j, none⟩ (.int .i64 x)) := (Touch.refl _ _).setCell _ _ (fun _ => rfl)
    simp only [List.getElem?_eq_getElem hk, Option.getD_some]
    refine ⟨rfl, ⟨base, A, cap, v, gs, h0.touch ht (fun b hb e => h2 b (e ▸ hFW) hb), by simpa using hst, by rw [List.length_set]; exact h2, h3, fun b vs hk => ?_⟩, k1.setCell ((h1.wa.foot _ hFW).1) _, k2, k3, k4⟩
    obtain ⟨j1, j2, j3, j4⟩ := h4 b vs hk
    exact ⟨j1.touch ht (fun e => j3 (e ▸ hFW)), j2, by rw [List.length_set]; exact j3, j4⟩
def lenV (arrs : List (List Int)) (ref : Int) : Int := if 1 ≤ ref ∧ ref ≤ arrs.length then ((arrs[(ref - 1).toNat]?.getD []).length : Int) else 0
def lenB (arrs : List (List Int)) (ref : Int) : Bool := decide (0 ≤ ref ∧ ref ≤ arrs.length)
theorem rp_hlen (h : RP w W gh gw rh room hs rs K) (ref : Int) :
    Calls Try.prog 9 #[.pointer (some ⟨gh, 0, none⟩), .int .i64 ref] W fun e W' => e = .returned (.tuple #[.int .i64 (lenV hs ref), .bool (lenB hs ref)]) ∧ RP w W' gh gw rh room hs rs K := by
  obtain ⟨base, A, cap, v, gs, h0, -⟩ := h.ex
  refine (len_at h0 ref).mono ?_
  rintro e W' ⟨rfl, hb⟩
  exact ⟨rfl, h.below hb⟩
theorem rp_rlen (h : RP w W gh gw rh room hs rs K) (ref : Int) :
    Calls Try.prog 17 #[.pointer (some ⟨rh, 0, none⟩), .int .i64 ref] W fun e W' => e = .returned (.tuple #[.int .i64 (lenV rs ref), .bool (lenB rs ref)]) ∧ W' = W := by
  obtain ⟨base, A, cap, v, gs, h0, h1, -⟩ := h.ex
  refine (rlen_at h1 ref).mono ?_
  rintro e W' ⟨rfl, rfl⟩
  refine ⟨?_, rfl⟩
  have e1 : hasR ([] :: rs).length ref = lenB rs ref := by
    unfold hasR lenB
    simp only [List.length_cons]
    congr 1
    simp only [eq_iff_iff]
    omega
  have e2 : (if 0 ≤ ref ∧ ref < (([] :: rs).length : Nat) then ((([] :: rs)[ref.toNat]?.getD []).length : Int) else 0) = lenV rs ref := by
    unfold lenV
    by_cases c : 1 ≤ ref ∧ ref ≤ rs.length
    · obtain ⟨k, hk⟩ := Int.eq_ofNat_of_zero_le (show 0 ≤ ref - 1 by omega)
      obtain rfl : ref = ((k + 1 : Nat) : Int) := by omega
      rw [if_pos c, if_pos (by simp only [List.length_cons]; omega), Int.toNat_natCast, List.getElem?_cons_succ]
      have : (((k + 1 : Nat) : Int) - 1).toNat = k := by omega
      rw [this]
    · rw [if_neg c]
      by_cases c2 : ref = 0
      · subst c2; rw [if_pos (by simp only [List.length_cons]; omega)]; rfl
      · rw [if_neg (by simp only [List.length_cons]; omega)]
  rw [e1, e2]
theorem rp_hused (h : RP w W gh gw rh room hs rs K) :
    Calls Try.prog 11 #[.pointer (some ⟨gh, 0, none⟩)] W fun e W' => e = .returned (.int .i64 hs.flatten.length) ∧ RP w W' gh gw rh room hs rs K := by
  obtain ⟨base, A, cap, v, gs, h0, -⟩ := h.ex
  refine (used_at h0).mono ?_
  rintro e W' ⟨rfl, hb⟩
  exact ⟨rfl, h.below hb⟩
theorem rp_rused (h : RP w W gh gw rh room hs rs K) :
    Calls Try.prog 18 #[.pointer (some ⟨rh, 0, none⟩)] W fun e W' => e = .returned (.int .i64 rs.flatten.length) ∧ W' = W := by
  obtain ⟨base, A, cap, v, gs, h0, h1, -⟩ := h.ex
  have h5 := rused_at h1
  rw [List.flatten_cons, List.nil_append] at h5
  exact h5
end
end Go.Proofs.Ythllfeogchbihab
