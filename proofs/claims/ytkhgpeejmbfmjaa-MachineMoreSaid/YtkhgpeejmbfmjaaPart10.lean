/- Parts of the walk, joined. -/
import Derived.Test.YtkhgpeejmbfmjaaPart09
import Derived.WalkMore
import Derived.ScopeJumps
/- The run in memory: do: nothing, move, juggle, traps, turns. -/
namespace Go.Proofs.Ytkhgpeejmbfmjaa
open Go.RowKit
set_option linter.unusedSimpArgs false
set_option linter.unusedVariables false
set_option maxRecDepth 100000
section
variable {w0 W : World} {X : Sx} {rb : Nat} {fgs : List Nat} {c : Nat} {s : Mc} {K : Nat → Prop} {fg : Nat}

set_option maxHeartbeats 2000000 in
theorem do_0 (h : RunAt w0 W X rb fgs c s K) (hf : Topf fgs fg) (a b p : Int) (ha : I64 a) (hp : I64 p) (hc : c < 25000) : Calls Try.prog 25 #[.pointer (some ⟨rb, 0, none⟩), .pointer (some ⟨fg, 0, none⟩), .agg #[.int .u8 0, .int .i64 a, .int .i64 b], .int .i64 p] W fun e W' => e = .returned (.int .i64 (s.do_ X.m X.l 0 a p).1) ∧ Left w0 W X rb c (s.do_ X.m X.l 0 a p).2 K W' := by
  obtain ⟨W1, t6, K1, hW1, ht6, R1, k6, B6, -⟩ := first_block h #[.int .u8 0, .int .i64 a, .int .i64 b] 46
  have HF := Lib.hid (And.intro hf hc)
  have HE := Lib.hid (And.intro hW1 ht6)
  have b0 := B6.c 0 _ rfl
  have b1 := B6.c 1 _ rfl
  have b2 := B6.c 2 _ rfl
  have lb := B6.l
  show Calls Try.prog 25 _ W fun e W' => e = .returned (.int .i64 (0)) ∧ Left w0 W X rb c (s) K W'
  have HB := Lib.hid (left_of R1.done hc hf)
  clear h hf ha hp hc R1 k6 B6 hW1 ht6
  go_enter Try.func25, Try.ntmps25
  go_wp2_with fail
  rw [HE.out.1, HE.out.2]
  clear HE
  go_step3
  go_wp2_with fail
  (try rw [Exit.noGoto_ret])
  go_ret
  exact ⟨rfl, HB.out⟩

set_option maxHeartbeats 2000000 in
theorem do_1 (h : RunAt w0 W X rb fgs c s K) (hf : Topf fgs fg) (a b p : Int) (ha : I64 a) (hp : I64 p) (hc : c < 25000) : Calls Try.prog 25 #[.pointer (some ⟨rb, 0, none⟩), .pointer (some ⟨fg, 0, none⟩), .agg #[.int .u8 1, .int .i64 a, .int .i64 b], .int .i64 p] W fun e W' => e = .returned (.int .i64 (s.do_ X.m X.l 1 a p).1) ∧ Left w0 W X rb c (s.do_ X.m X.l 1 a p).2 K W' := by
  obtain ⟨W1, t6, K1, hW1, ht6, R1, k6, B6, -⟩ := first_block h #[.int .u8 1, .int .i64 a, .int .i64 b] 46
  have HF := Lib.hid (And.intro hf hc)
  have HE := Lib.hid (And.intro hW1 ht6)
  have b0 := B6.c 0 _ rfl
  have b1 := B6.c 1 _ rfl
  have b2 := B6.c 2 _ rfl
  have lb := B6.l
  show Calls Try.prog 25 _ W fun e W' => e = .returned (.int .i64 (0)) ∧ Left w0 W X rb c (s.move X.m 1 a) K W'
  have HP := Lib.hid (move_1 R1.r hf a b)
  have HR := Lib.hid R1
  clear h hf ha hp hc R1 k6 B6 hW1 ht6
  go_enter Try.func25, Try.ntmps25
  go_wp2_with fail
  rw [HE.out.1, HE.out.2]
  clear HE
  go_step3
  go_wp2_with fail
  refine HP.out.mono ?_
  rintro e w2 ⟨rfl, hR⟩
  have HB := Lib.hid (left_of (HR.out.call hR).done HF.out.2 HF.out.1)
  clear hR HR
  go_wp2_with fail
  (try rw [Exit.noGoto_ret])
  go_ret
  exact ⟨rfl, HB.out⟩

set_option maxHeartbeats 2000000 in
theorem do_2 (h : RunAt w0 W X rb fgs c s K) (hf : Topf fgs fg) (a b p : Int) (ha : I64 a) (hp : I64 p) (hc : c < 25000) : Calls Try.prog 25 #[.pointer (some ⟨rb, 0, none⟩), .pointer (some ⟨fg, 0, none⟩), .agg #[.int .u8 2, .int .i64 a, .int .i64 b], .int .i64 p] W fun e W' => e = .returned (.int .i64 (s.do_ X.m X.l 2 a p).1) ∧ Left w0 W X rb c (s.do_ X.m X.l 2 a p).2 K W' := by
  obtain ⟨W1, t6, K1, hW1, ht6, R1, k6, B6, -⟩ := first_block h #[.int .u8 2, .int .i64 a, .int .i64 b] 46
  have HF := Lib.hid (And.intro hf hc)
  have HE := Lib.hid (And.intro hW1 ht6)
  have b0 := B6.c 0 _ rfl
  have b1 := B6.c 1 _ rfl
  have b2 := B6.c 2 _ rfl
  have lb := B6.l
  show Calls Try.prog 25 _ W fun e W' => e = .returned (.int .i64 (0)) ∧ Left w0 W X rb c (s.move X.m 2 a) K W'
  have HP := Lib.hid (move_2 R1.r hf a b)
  have HR := Lib.hid R1
  clear h hf ha hp hc R1 k6 B6 hW1 ht6
  go_enter Try.func25, Try.ntmps25
  go_wp2_with fail
  rw [HE.out.1, HE.out.2]
  clear HE
  go_step3
  go_wp2_with fail
  refine HP.out.mono ?_
  rintro e w2 ⟨rfl, hR⟩
  have HB := Lib.hid (left_of (HR.out.call hR).done HF.out.2 HF.out.1)
  clear hR HR
  go_wp2_with fail
  (try rw [Exit.noGoto_ret])
  go_ret
  exact ⟨rfl, HB.out⟩
end
#print axioms do_0
#print axioms do_1
#print axioms do_2
end Go.Proofs.Ytkhgpeejmbfmjaa
/- The run in memory: do: nothing, move, juggle, traps, turns. -/
namespace Go.Proofs.Ytkhgpeejmbfmjaa
open Go.RowKit
set_option linter.unusedSimpArgs false
set_option linter.unusedVariables false
set_option maxRecDepth 100000
section
variable {w0 W : World} {X : Sx} {rb : Nat} {fgs : List Nat} {c : Nat} {s : Mc} {K : Nat → Prop} {fg : Nat}

set_option maxHeartbeats 2000000 in
theorem do_3 (h : RunAt w0 W X rb fgs c s K) (hf : Topf fgs fg) (a b p : Int) (ha : I64 a) (hp : I64 p) (hc : c < 25000) : Calls Try.prog 25 #[.pointer (some ⟨rb, 0, none⟩), .pointer (some ⟨fg, 0, none⟩), .agg #[.int .u8 3, .int .i64 a, .int .i64 b], .int .i64 p] W fun e W' => e = .returned (.int .i64 (s.do_ X.m X.l 3 a p).1) ∧ Left w0 W X rb c (s.do_ X.m X.l 3 a p).2 K W' := by
  obtain ⟨W1, t6, K1, hW1, ht6, R1, k6, B6, -⟩ := first_block h #[.int .u8 3, .int .i64 a, .int .i64 b] 46
  have HF := Lib.hid (And.intro hf hc)
  have HE := Lib.hid (And.intro hW1 ht6)
  have b0 := B6.c 0 _ rfl
  have b1 := B6.c 1 _ rfl
  have b2 := B6.c 2 _ rfl
  have lb := B6.l
  show Calls Try.prog 25 _ W fun e W' => e = .returned (.int .i64 (0)) ∧ Left w0 W X rb c (s.move X.m 3 a) K W'
  have HP := Lib.hid (move_3 R1.r hf a b)
  have HR := Lib.hid R1
  clear h hf ha hp hc R1 k6 B6 hW1 ht6
  go_enter Try.func25, Try.ntmps25
  go_wp2_with fail
  rw [HE.out.1, HE.out.2]
  clear HE
  go_step3
  go_wp2_with fail
  refine HP.out.mono ?_
  rintro e w2 ⟨rfl, hR⟩
  have HB := Lib.hid (left_of (HR.out.call hR).done HF.out.2 HF.out.1)
  clear hR HR
  go_wp2_with fail
  (try rw [Exit.noGoto_ret])
  go_ret
  exact ⟨rfl, HB.out⟩

set_option maxHeartbeats 2000000 in
theorem do_4 (h : RunAt w0 W X rb fgs c s K) (hf : Topf fgs fg) (a b p : Int) (ha : I64 a) (hp : I64 p) (hc : c < 25000) : Calls Try.prog 25 #[.pointer (some ⟨rb, 0, none⟩), .pointer (some ⟨fg, 0, none⟩), .agg #[.int .u8 4, .int .i64 a, .int .i64 b], .int .i64 p] W fun e W' => e = .returned (.int .i64 (s.do_ X.m X.l 4 a p).1) ∧ Left w0 W X rb c (s.do_ X.m X.l 4 a p).2 K W' := by
  obtain ⟨W1, t6, K1, hW1, ht6, R1, k6, B6, -⟩ := first_block h #[.int .u8 4, .int .i64 a, .int .i64 b] 46
  have HF := Lib.hid (And.intro hf hc)
  have HE := Lib.hid (And.intro hW1 ht6)
  have b0 := B6.c 0 _ rfl
  have b1 := B6.c 1 _ rfl
  have b2 := B6.c 2 _ rfl
  have lb := B6.l
  show Calls Try.prog 25 _ W fun e W' => e = .returned (.int .i64 (0)) ∧ Left w0 W X rb c (s.move X.m 4 a) K W'
  have HP := Lib.hid (move_4 R1.r hf a b)
  have HR := Lib.hid R1
  clear h hf ha hp hc R1 k6 B6 hW1 ht6
  go_enter Try.func25, Try.ntmps25
  go_wp2_with fail
  rw [HE.out.1, HE.out.2]
  clear HE
  go_step3
  go_wp2_with fail
  refine HP.out.mono ?_
  rintro e w2 ⟨rfl, hR⟩
  have HB := Lib.hid (left_of (HR.out.call hR).done HF.out.2 HF.out.1)
  clear hR HR
  go_wp2_with fail
  (try rw [Exit.noGoto_ret])
  go_ret
  exact ⟨rfl, HB.out⟩

set_option maxHeartbeats 2000000 in
theorem do_5 (h : RunAt w0 W X rb fgs c s K) (hf : Topf fgs fg) (a b p : Int) (ha : I64 a) (hp : I64 p) (hc : c < 25000) : Calls Try.prog 25 #[.pointer (some ⟨rb, 0, none⟩), .pointer (some ⟨fg, 0, none⟩), .agg #[.int .u8 5, .int .i64 a, .int .i64 b], .int .i64 p] W fun e W' => e = .returned (.int .i64 (s.do_ X.m X.l 5 a p).1) ∧ Left w0 W X rb c (s.do_ X.m X.l 5 a p).2 K W' := by
  obtain ⟨W1, t6, K1, hW1, ht6, R1, k6, B6, -⟩ := first_block h #[.int .u8 5, .int .i64 a, .int .i64 b] 46
  have HF := Lib.hid (And.intro hf hc)
  have HE := Lib.hid (And.intro hW1 ht6)
  have b0 := B6.c 0 _ rfl
  have b1 := B6.c 1 _ rfl
  have b2 := B6.c 2 _ rfl
  have lb := B6.l
  show Calls Try.prog 25 _ W fun e W' => e = .returned (.int .i64 (0)) ∧ Left w0 W X rb c (s.move X.m 5 a) K W'
  have HP := Lib.hid (move_5 R1.r hf a b)
  have HR := Lib.hid R1
  clear h hf ha hp hc R1 k6 B6 hW1 ht6
  go_enter Try.func25, Try.ntmps25
  go_wp2_with fail
  rw [HE.out.1, HE.out.2]
  clear HE
  go_step3
  go_wp2_with fail
  refine HP.out.mono ?_
  rintro e w2 ⟨rfl, hR⟩
  have HB := Lib.hid (left_of (HR.out.call hR).done HF.out.2 HF.out.1)
  clear hR HR
  go_wp2_with fail
  (try rw [Exit.noGoto_ret])
  go_ret
  exact ⟨rfl, HB.out⟩
end
#print axioms do_3
#print axioms do_4
#print axioms do_5
end Go.Proofs.Ytkhgpeejmbfmjaa
/- The run in memory: numbers on the stack. -/
namespace Go.Proofs.Ytkhgpeejmbfmjaa
open Go.RowKit
set_option linter.unusedSimpArgs false
set_option linter.unusedVariables false
set_option maxRecDepth 100000
section
variable {w0 W : World} {X : Sx} {rb : Nat} {fgs : List Nat} {c : Nat} {s : Mc} {K : Nat → Prop} {fg : Nat}

theorem num_ok (h : RunAt w0 W X rb fgs c s K) (hf : Topf fgs fg) : I64 s.number.1 := (pop_ok h hf 1).2.1
theorem pair_ok (h : RunAt w0 W X rb fgs c s K) (hf : Topf fgs fg) : I64 s.pair.1.1 ∧ I64 s.pair.1.2 := (pop_ok h hf 2).2
theorem vint_ok {n : Int} (h : I64 n) : VOk (vInt n) := by
  unfold I64 at h
  unfold vInt VOk I64
  dsimp only
  omega
end
#print axioms num_ok
#print axioms pair_ok
#print axioms vint_ok
end Go.Proofs.Ytkhgpeejmbfmjaa
/- The run in memory: operations of two numbers. -/
namespace Go.Proofs.Ytkhgpeejmbfmjaa
open Go.RowKit
set_option linter.unusedSimpArgs false
set_option linter.unusedVariables false
set_option maxRecDepth 100000
section
variable {w0 W : World} {X : Sx} {rb : Nat} {fgs : List Nat} {c : Nat} {s : Mc} {K : Nat → Prop} {fg : Nat}

/-- One cell. -/
def K1C (t : Nat) (v : Value) (w : World) : Prop := w.cell? ⟨t, 0, none⟩ = some v
theorem k1_lt {t : Nat} {v : Value} {w : World} (h : K1C t v w) : t < w.heap.size := World.block_lt_of_cell? w ⟨t, 0, none⟩ h
theorem k1_drew {t : Nat} {v : Value} {w : World} (h : K1C t v w) : K1C t v w.drew := h
theorem k1_below {t : Nat} {v : Value} {w w' : World} (h : K1C t v w) (hb : Below w.heap.size w w') : K1C t v w' := (hb.cell (p := ⟨t, 0, none⟩) (k1_lt h)).trans h
theorem k1_call {t : Nat} {v : Value} {W1 : World} {K1 : Nat → Prop} (h : RunK w0 W X rb fgs c s K1 W1) (hk : K1 t) (hp : K1C t v W) : K1C t v W1 := (h.cell hk (k1_lt hp) 0).trans hp
theorem wrap64_ok (x : Int) : I64 (wrap64 x) := by unfold wrap64 I64; omega
theorem divV_ok {a b : Int} (ha : I64 a) (hb : I64 b) : I64 (divV a b).1 := by
  unfold divV
  split
  · unfold I64; dsimp only; omega
  · split
    · exact ha
    · rename_i h0 h1
      have := tdiv_in ha hb h0 h1
      rw [← this]
      exact wrap64_ok _
theorem binV_ok (op : Int) {a b : Int} (ha : I64 a) (hb : I64 b) : I64 (binV op a b).1 := by
  unfold binV
  split
  · exact wrap64_ok _
  · split
    · exact wrap64_ok _
    · split
      · exact wrap64_ok _
      · split
        · exact divV_ok ha hb
        · split
          · exact wrap64_ok _
          · split
            · dsimp only; split <;> (unfold I64; omega)
            · dsimp only; split <;> (unfold I64; omega)
/-- What becomes of a number and a trap. -/
def binRes (n tr : Int) (s : Mc) : Int × Mc := if tr ≠ 0 then (tr, s) else (0, s.push (vInt n))
theorem binRes_trap {n tr : Int} {s : Mc} (h : tr ≠ 0) : binRes n tr s = (tr, s) := if_pos h
theorem binRes_ok (n : Int) (s : Mc) : binRes n 0 s = (0, s.push (vInt n)) := if_neg (fun h => h rfl)
end
#print axioms binV_ok
#print axioms binRes_trap
#print axioms binRes_ok
end Go.Proofs.Ytkhgpeejmbfmjaa
/- The run in memory: the heap's answers. -/
namespace Go.Proofs.Ytkhgpeejmbfmjaa
open Go.RowKit
set_option linter.unusedSimpArgs false
set_option linter.unusedVariables false
set_option maxRecDepth 100000
section
variable {w0 W : World} {X : Sx} {rb : Nat} {fgs : List Nat} {c : Nat} {s : Mc} {K : Nat → Prop} {fg : Nat}

/-- Where a jump to the label ends. -/
def JumpAt (Q : World → Prop) (a : Act) (w : World) : Prop := ∃ T : Array Value, a = { tmps := T, defers := [] } ∧ T.size = 235 ∧ Q w
theorem heap_words (h : RunAt w0 W X rb fgs c s K) (ref i : Int) : I64 (atV s.hp ref i).1 := by
  unfold atV
  split
  · rename_i k j hk
    dsimp only
    cases h1 : s.hp[k]? with
    | none => simp [h1]; unfold I64; omega
    | some r =>
      cases h2 : r[j]? with
      | none => simp [h1, h2]; unfold I64; omega
      | some z =>
        simp [h1, h2]
        exact h.ok.hw r (List.mem_of_getElem? h1) z (List.mem_of_getElem? h2)
  · unfold I64; dsimp only; omega
theorem heap_len (h : RunAt w0 W X rb fgs c s K) : s.hp.flatten.length ≤ 1024 := by
  obtain ⟨gw, KH, -, -, h1, -⟩ := h.heap
  obtain ⟨base, A, cap, h0, -⟩ := h1.ex
  exact Nat.le_trans h0.sm h0.rm
theorem row_le (l : List (List Int)) (k : Nat) : (l[k]?.getD []).length ≤ l.flatten.length := by
  cases h : l[k]? with
  | none => simp
  | some r =>
    obtain ⟨hk, rfl⟩ := List.getElem?_eq_some_iff.1 h
    rw [Option.getD_some]
    exact (List.sublist_flatten_of_mem (List.getElem_mem hk)).length_le
theorem lenV_ok (h : RunAt w0 W X rb fgs c s K) (ref : Int) : I64 (if 1 ≤ ref ∧ ref ≤ s.hp.length then ((s.hp[(ref - 1).toNat]?.getD []).length : Int) else 0) := by
  have h1 := heap_len h
  have h2 := row_le s.hp (ref - 1).toNat
  unfold I64
  split <;> omega
theorem putH_len (h : List (List Int)) (ref i v : Int) : (putH h ref i v).length = h.length := by
  unfold putH
  split
  · rw [List.length_set]
  · rfl
theorem putH_words {h : List (List Int)} (hw : ∀ r ∈ h, ∀ z ∈ r, I64 z) (ref i : Int) {v : Int} (hv : I64 v) : ∀ r ∈ putH h ref i v, ∀ z ∈ r, I64 z := by
  unfold putH
  split
  · rename_i k j hk
    intro r hr z hz
    rcases List.mem_or_eq_of_mem_set hr with hr | rfl
    · exact hw r hr z hz
    · rcases List.mem_or_eq_of_mem_set hz with hz | rfl
      · cases h1 : h[k]? with
        | none => rw [h1] at hz; simp at hz
        | some r => rw [h1] at hz; exact hw r (List.mem_of_getElem? h1) z hz
      · exact hv
  · exact hw
theorem putH_no {h : List (List Int)} {ref i : Int} (v : Int) (hq : (atV h ref i).2 = false) : putH h ref i v = h := by
  unfold atV at hq
  unfold putH
  split
  · rename_i k j hk
    rw [hk] at hq
    cases hq
  · rfl
theorem cell_drew {w : World} {p : Addr} {v : Value} (h : w.cell? p = some v) : w.drew.cell? p = some v := h
/-- What becomes of a number that is there, or not. -/
def isRes (n : Int) (q : Bool) (s : Mc) : Int × Mc := if q then (0, s.push (vInt n)) else (2, s)
theorem isRes_yes (n : Int) (s : Mc) : isRes n true s = (0, s.push (vInt n)) := rfl
theorem isRes_no (n : Int) (s : Mc) : isRes n false s = (2, s) := rfl
/-- What the heap answers to the run. -/
theorem r_at (h : RunAt w0 W X rb fgs c s K) (ref i : Int) : Calls Try.prog 44 #[.pointer (some ⟨X.gh, 0, none⟩), .int .i64 ref, .int .i64 i] W fun e W' => e = .returned (.tuple #[.int .i64 (atV s.hp ref i).1, .bool (atV s.hp ref i).2]) ∧ Below W.heap.size W W' := by
  obtain ⟨gw, KH, -, -, h1, -⟩ := h.heap
  exact hx_at h1 ref i
theorem r_len (h : RunAt w0 W X rb fgs c s K) (ref : Int) : Calls Try.prog 47 #[.pointer (some ⟨X.gh, 0, none⟩), .int .i64 ref] W fun e W' => e = .returned (.tuple #[.int .i64 (if 1 ≤ ref ∧ ref ≤ s.hp.length then ((s.hp[(ref - 1).toNat]?.getD []).length : Int) else 0), .bool (decide (0 ≤ ref ∧ ref ≤ s.hp.length))]) ∧ Below W.heap.size W W' := by
  obtain ⟨gw, KH, -, -, h1, -⟩ := h.heap
  exact hx_len h1 ref
theorem r_put (h : RunAt w0 W X rb fgs c s K) (ref i v : Int) (hv : I64 v) : Calls Try.prog 46 #[.pointer (some ⟨X.gh, 0, none⟩), .int .i64 ref, .int .i64 i, .int .i64 v] W fun e W' => e = .returned (.bool (atV s.hp ref i).2) ∧ RunK w0 W X rb fgs c { s with hp := putH s.hp ref i v } K W' := by
  obtain ⟨gw, KH, -, -, h1, h2⟩ := h.heap
  refine (hx_put h1 ref i v).mono ?_
  rintro e W' ⟨rfl, h3, t⟩
  exact ⟨rfl, h2 W' c _ h3 t (Nat.le_refl _) h.ok.cl (by rw [putH_len]; exact h.ok.hl) (putH_words h.ok.hw ref i hv)⟩
theorem RunAt.c6 (h : RunAt w0 W X rb fgs c s K) : W.cell? ⟨rb, 6, none⟩ = some (.pointer (some ⟨X.gh, 0, none⟩)) := by
  obtain ⟨gw, KH, c6, -⟩ := h.heap
  exact c6
end
#print axioms r_len
#print axioms r_put
#print axioms RunAt
end Go.Proofs.Ytkhgpeejmbfmjaa
