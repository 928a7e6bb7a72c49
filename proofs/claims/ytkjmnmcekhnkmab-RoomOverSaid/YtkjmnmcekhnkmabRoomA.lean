/- Looks at positions (package room): what a look in memory is, and the contracts of its functions: for every look. -/
import Derived.Test.YtkjmnmcekhnkmabProg
import Derived.WalkKit
import Derived.WalkLawsBesides
import Derived.KernelRfl
import Derived.Lib.Hide
import Derived.Handy
import Derived.Deep.RegionHeld3
import Derived.Deep.QuietTactic
import Derived.BigQuiet
namespace Go.Proofs.Ytkjmnmcekhnkmab
open Go.RowKit
set_option linter.unusedSimpArgs false
set_option linter.unusedVariables false

theorem ret_int {a b : Int} (h : a = b) : Ending.returned (.int .i64 a) = .returned (.int .i64 b) := by rw [h]

theorem ret_ib {a b : Int} {x y : Bool} (h : a = b) (h' : x = y) : Ending.returned (.tuple #[.int .i64 a, .bool x]) = .returned (.tuple #[.int .i64 b, .bool y]) := by rw [h, h']
theorem ret_bool {x y : Bool} (h : x = y) : Ending.returned (.bool x) = .returned (.bool y) := by rw [h]

/-- The least of a list's numbers. -/
def mnl : List Int → Int
  | [] => 0
  | x :: xs => xs.foldl (fun a b => if b < a then b else a) x

theorem mnl_take (l : List Int) (k : Nat) (h1 : 1 ≤ k) (h : k < l.length) : mnl (l.take (k + 1)) = if l.getD k 0 < mnl (l.take k) then l.getD k 0 else mnl (l.take k) := by
  match l, k, h1 with
  | x :: xs, k + 1, _ =>
    simp only [List.length_cons] at h
    rw [List.take_succ_cons, List.take_succ_cons, List.take_succ_eq_append_getElem (by omega)]
    simp only [mnl, List.foldl_append, List.foldl_cons, List.foldl_nil]
    have : (x :: xs).getD (k + 1) 0 = xs[k]'(by omega) := by simp [List.getD_eq_getElem?_getD]; rw [List.getElem?_eq_getElem (by omega)]; rfl
    rw [this]
    rfl

theorem min_any (g o cap : Nat) (l : List Int) (w : World) (hl : 1 ≤ l.length) (hm : l.length ≤ 1000000) (hc : ∀ j, j < l.length → w.cell? ⟨g, o + j, none⟩ = some (.int .i64 (l.getD j 0))) :
    Calls Try.prog 44 #[.slice (some ⟨g, o, none⟩) l.length cap] w fun e w' => e = .returned (.int .i64 (mnl l)) ∧ w' = w := by
  have h0 := hc 0 (by omega)
  rw [Nat.add_zero] at h0
  have h1 : mnl (l.take 1) = l.getD 0 0 := by
    match l, hl with
    | x :: xs, _ => rfl
  have HC := Lib.hid hc
  have H1 := Lib.hid h1
  clear hc h1
  go_enter Try.func44, Try.ntmps44
  go_wp2_with fail
  go_loop [3, 4] (fun m i => ∃ k : Nat, 1 ≤ k ∧ k ≤ l.length ∧ i = .int .i64 k ∧ m = .int .i64 (mnl (l.take k))) (fun _ i => l.length - (intOf i).toNat)
  case atStart => exact ⟨1, by omega, by omega, rfl, by rw [H1.out]; simp⟩
  case round =>
    obtain ⟨k, hk1, hk, rfl, rfl⟩ := hrel
    by_cases hlt : k < l.length
    · have hx := HC.out k hlt
      go_wp2_with fail
      go_roundw
      case rel =>
        refine ⟨k + 1, by omega, by omega, by go_num, ?_⟩
        rw [mnl_take l k hk1 hlt, List.getD_eq_getElem?_getD, List.getElem?_eq_getElem hlt]
        rfl
      case measure => simp [intOf]; omega
    · go_wp2_with fail
      go_ret
      refine ⟨ret_int ?_, rfl⟩
      rw [List.take_of_length_le (by omega)]

/-- A look at n positions, of which l have been read. -/
structure LookAt (w : World) (g : Nat) (n : Nat) (l : List Int) : Prop where
  n1 : 1 ≤ n
  n64 : n ≤ 64
  ln : l.length ≤ n
  cn : w.cell? ⟨g, 0, none⟩ = some (.int .i64 n)
  cm : w.cell? ⟨g, 1, none⟩ = some (.int .i64 l.length)
  cp : ∀ j, j < l.length → w.cell? ⟨g, 2 + j, none⟩ = some (.int .i64 (l.getD j 0))
  ca : ∀ j, j < 64 → ∃ v : Int, w.cell? ⟨g, 2 + j, none⟩ = some (.int .i64 v)
  cf : w.cell? ⟨g, 66, none⟩ = some (.func (.func 44) #[] #[])
  fz : ∀ o, w.frozen? ⟨g, o, none⟩ = false

theorem LookAt.same {w w' : World} {g n : Nat} {l : List Int} (h : LookAt w g n l) (hc : ∀ o, w'.cell? ⟨g, o, none⟩ = w.cell? ⟨g, o, none⟩) (hf : ∀ o, w'.frozen? ⟨g, o, none⟩ = w.frozen? ⟨g, o, none⟩) : LookAt w' g n l :=
  ⟨h.n1, h.n64, h.ln, (hc _).trans h.cn, (hc _).trans h.cm, fun j hj => (hc _).trans (h.cp j hj), fun j hj => let ⟨v, hv⟩ := h.ca j hj; ⟨v, (hc _).trans hv⟩, (hc _).trans h.cf, fun o => (hf o).trans (h.fz o)⟩
theorem LookAt.below {w w' : World} {g n B : Nat} {l : List Int} (h : LookAt w g n l) (hb : Below B w w') (hg : g < B) : LookAt w' g n l :=
  h.same (fun o => hb.cell (p := ⟨g, o, none⟩) hg) (fun o => hb.frozen (p := ⟨g, o, none⟩) hg)
theorem LookAt.drewN {w : World} {g n : Nat} {l : List Int} (h : LookAt w g n l) (k : Nat) : LookAt (w.drewN k) g n l :=
  h.same (fun o => by simp) (fun o => by simp)

theorem none_look (g : Nat) (n : Int) (w : World) (h : w.cell? ⟨g, 0, none⟩ = some (.int .i64 n)) (hn : 1 ≤ n) : Calls Try.prog 42 #[.pointer (some ⟨g, 0, none⟩)] w fun e w' => e = .returned (.bool false) ∧ w' = w := by
  have h1 : (n == 0) = false := by rw [beq_eq_false_iff_ne]; omega
  go_enter Try.func42, Try.ntmps42
  go_wp2
  go_ret
  exact ⟨rfl, rfl⟩

/-- Whose position is read next. -/
theorem next_any (g n : Nat) (l : List Int) (w : World) (h : LookAt w g n l) : Calls Try.prog 20 #[.pointer (some ⟨g, 0, none⟩)] w fun e w' =>
    e = .returned (.tuple #[.int .i64 (if l.length = n then 0 else (l.length : Int)), .bool (!decide (l.length = n))]) ∧ ∃ k, w' = w.drewN k := by
  obtain ⟨n1, n64, ln, cn, cm, -, -, -, -⟩ := h
  by_cases hq : l.length = n
  · have h1 : ((l.length : Int) == (n : Int)) = true := by rw [beq_iff_eq]; omega
    rw [if_pos hq, decide_eq_true hq]
    clear hq
    go_enter Try.func20, Try.ntmps20
    go_wp2_with fail
    go_quiet ((go_at_call 42; exact Calls.quiet_of_same (none_look g n _ (by simp [*]) (by omega))))
    go_wp2_with fail
    go_ret2
    exact ⟨rfl, _, rfl⟩
  · have h1 : ((l.length : Int) == (n : Int)) = false := by rw [beq_eq_false_iff_ne]; omega
    rw [if_neg hq, decide_eq_false hq]
    clear hq
    go_enter Try.func20, Try.ntmps20
    go_wp2_with fail
    go_quiet ((go_at_call 42; exact Calls.quiet_of_same (none_look g n _ (by simp [*]) (by omega))))
    go_wp2_with fail
    go_ret2
    exact ⟨rfl, _, rfl⟩

/-- The least, and whether all have been read. -/
theorem least_any (g n : Nat) (l : List Int) (w : World) (h : LookAt w g n l) : Calls Try.prog 16 #[.pointer (some ⟨g, 0, none⟩)] w fun e w' =>
    e = .returned (.tuple #[.int .i64 (mnl l), .bool (decide (1 ≤ l.length ∧ l.length = n))]) ∧ ∃ k, w' = w.drewN k := by
  by_cases h0 : l.length = 0
  · obtain ⟨n1, n64, ln, cn, cm, -, -, -, -⟩ := h
    have h1 : ((l.length : Int) == 0) = true := by rw [beq_iff_eq]; omega
    rw [decide_eq_false (by omega), show mnl l = 0 by rw [List.length_eq_zero_iff.1 h0]; rfl]
    clear h0
    go_enter Try.func16, Try.ntmps16
    go_wp2_with (go_at_call 42; refine (none_look g n _ (by simp [*]) (by omega)).mono ?_; rintro e w' ⟨rfl, rfl⟩)
    go_ret2
    exact ⟨rfl, 0, rfl⟩
  · have hm := fun k => min_any g 2 64 l (w.drewN k) (by omega) (by have := h.ln; have := h.n64; omega) (h.drewN k).cp
    obtain ⟨n1, n64, ln, cn, cm, -, -, cf, -⟩ := h
    have h1 : ((l.length : Int) == 0) = false := by rw [beq_eq_false_iff_ne]; omega
    have h2 : ((l.length : Int) == (n : Int)) = decide (1 ≤ l.length ∧ l.length = n) := by
      rw [Bool.eq_iff_iff]; simp; omega
    have h3 : (l.length : Int) ≤ 64 := by omega
    have HM := Lib.hid hm
    have H2 := Lib.hid h2
    clear h0 hm h2
    go_enter Try.func16, Try.ntmps16
    go_wp2_with (go_at_call 42; refine (none_look g n _ (by simp [*]) (by omega)).mono ?_; rintro e w' ⟨rfl, rfl⟩)
    go_quiet ((go_at_call 44; exact Calls.quiet_of_same (HM.out _)))
    go_wp2_with fail
    go_ret2
    exact ⟨ret_ib rfl H2.out, _, rfl⟩

/-- May a number be a position? -/
def inB (x : Int) : Bool := decide (0 ≤ x ∧ x ≤ 1099511627776)

theorem in_any (x : Int) (w : World) : Calls Try.prog 43 #[.int .i64 x] w fun e w' => e = .returned (.bool (inB x)) ∧ w' = w := by
  by_cases h1 : 0 ≤ x
  · by_cases h2 : x ≤ 1099511627776
    all_goals
      go_enter Try.func43, Try.ntmps43
      go_wp2
      go_ret
      refine ⟨ret_bool ?_, rfl⟩
      first | (symm; rw [inB, decide_eq_true_iff]; omega) | (symm; rw [inB, decide_eq_false_iff_not]; omega)
  · go_enter Try.func43, Try.ntmps43
    go_wp2
    go_ret
    refine ⟨ret_bool ?_, rfl⟩
    (symm; rw [inB, decide_eq_false_iff_not]; omega)

theorem inB_iff {x : Int} : inB x = true ↔ 0 ≤ x ∧ x ≤ 1099511627776 := by unfold inB; exact decide_eq_true_iff

/-- Is there room for n processes' entries above pos, in an arena of ar? -/
def roomB (n : Nat) (l : List Int) (pos ar : Int) : Bool :=
  decide (1 ≤ l.length ∧ l.length = n) && (inB pos && (inB ar && (inB (mnl l) && decide (pos + n ≤ mnl l + ar))))

theorem room_any (g n : Nat) (l : List Int) (pos ar : Int) (w : World) (h : LookAt w g n l) :
    Calls Try.prog 17 #[.pointer (some ⟨g, 0, none⟩), .int .i64 pos, .int .i64 ar] w fun e w' => e = .returned (.bool (roomB n l pos ar)) ∧ ∃ k, w' = w.drewN k := by
  have hl := least_any g n l w h
  have hcn := h.cn
  have hn1 := h.n1
  have hn2 := h.n64
  have HL := Lib.hid hl
  clear hl h
  unfold roomB
  cases ho : decide (1 ≤ l.length ∧ l.length = n)
  · rw [Bool.false_and]
    go_enter Try.func17, Try.ntmps17
    go_wp2_with (go_at_call 16; refine HL.out.mono ?_; rintro e w' ⟨rfl, nq, rfl⟩)
    go_ret
    exact ⟨rfl, _, rfl⟩
  rw [Bool.true_and]
  cases hp : inB pos
  · rw [Bool.false_and]
    go_enter Try.func17, Try.ntmps17
    go_wp2_with (first | (go_at_call 16; refine HL.out.mono ?_; rintro e w' ⟨rfl, nq, rfl⟩) | (go_at_call 43; refine (in_any _ _).mono ?_; rintro e w' ⟨rfl, rfl⟩) | fail)
    go_ret
    exact ⟨rfl, _, rfl⟩
  rw [Bool.true_and]
  cases ha : inB ar
  · rw [Bool.false_and]
    go_enter Try.func17, Try.ntmps17
    go_wp2_with (first | (go_at_call 16; refine HL.out.mono ?_; rintro e w' ⟨rfl, nq, rfl⟩) | (go_at_call 43; refine (in_any _ _).mono ?_; rintro e w' ⟨rfl, rfl⟩) | fail)
    go_ret
    exact ⟨rfl, _, rfl⟩
  rw [Bool.true_and]
  cases hm : inB (mnl l)
  · rw [Bool.false_and]
    go_enter Try.func17, Try.ntmps17
    go_wp2_with (first | (go_at_call 16; refine HL.out.mono ?_; rintro e w' ⟨rfl, nq, rfl⟩) | (go_at_call 43; refine (in_any _ _).mono ?_; rintro e w' ⟨rfl, rfl⟩) | fail)
    go_ret
    exact ⟨rfl, _, rfl⟩
  rw [Bool.true_and]
  obtain ⟨p1, p2⟩ := inB_iff.1 hp
  obtain ⟨a1, a2⟩ := inB_iff.1 ha
  obtain ⟨m1, m2⟩ := inB_iff.1 hm
  go_enter Try.func17, Try.ntmps17
  go_wp2_with (first | (go_at_call 16; refine HL.out.mono ?_; rintro e w' ⟨rfl, nq, rfl⟩) | (go_at_call 43; refine (in_any _ _).mono ?_; rintro e w' ⟨rfl, rfl⟩) | fail)
  go_ret
  refine ⟨ret_bool ?_, _, rfl⟩
  rfl

/-- A look that has read all: nothing more is read. -/
theorem read_full (g n : Nat) (l : List Int) (p : Int) (w : World) (h : LookAt w g n l) (hq : l.length = n) :
    Calls Try.prog 24 #[.pointer (some ⟨g, 0, none⟩), .int .i64 p] w fun e w' => e = .returned (.int .i64 2) ∧ ∃ k, w' = w.drewN k := by
  obtain ⟨n1, n64, ln, cn, cm, -, -, -, -⟩ := h
  have h1 : ((l.length : Int) == (n : Int)) = true := by rw [beq_iff_eq]; omega
  clear hq
  go_enter Try.func24, Try.ntmps24
  go_wp2_with (go_at_call 42; refine (none_look g n _ (by simp [*]) (by omega)).mono ?_; rintro e w' ⟨rfl, rfl⟩)
  go_quiet (fail)
  go_wp2_with fail
  go_ret
  exact ⟨rfl, _, rfl⟩

theorem read_any (g n : Nat) (l : List Int) (p : Int) (w : World) (h : LookAt w g n l) (hq : l.length ≠ n) :
    Calls Try.prog 24 #[.pointer (some ⟨g, 0, none⟩), .int .i64 p] w fun e w' => e = .returned (.int .i64 0) ∧
      ∃ k, w' = ((w.drewN k).setCell ⟨g, 2 + l.length, none⟩ (.int .i64 p)).setCell ⟨g, 1, none⟩ (.int .i64 (l.length + 1)) := by
  have hlt : l.length < n := by have := h.ln; omega
  obtain ⟨v, hv⟩ := h.ca l.length (by have := h.n64; omega)
  obtain ⟨n1, n64, ln, cn, cm, -, -, -, fz⟩ := h
  have h1 : ((l.length : Int) == (n : Int)) = false := by rw [beq_eq_false_iff_ne]; omega
  have h3 : (l.length : Int) < 64 := by omega
  have f1 := fz 1
  have f2 := fz (2 + l.length)
  clear hq fz
  go_enter Try.func24, Try.ntmps24
  go_wp2_with (go_at_call 42; refine (none_look g n _ (by simp [*]) (by omega)).mono ?_; rintro e w' ⟨rfl, rfl⟩)
  go_quiet (fail)
  go_wp2_with fail
  go_region
  go_wp2_with fail
  go_ret
  exact ⟨rfl, _, rfl⟩

theorem LookAt.read {g n : Nat} {l : List Int} {p : Int} {w : World} (h : LookAt w g n l) (hq : l.length ≠ n) (k : Nat) :
    LookAt (((w.drewN k).setCell ⟨g, 2 + l.length, none⟩ (.int .i64 p)).setCell ⟨g, 1, none⟩ (.int .i64 (l.length + 1))) g n (l ++ [p]) := by
  have h := h.drewN k
  generalize w.drewN k = w at *
  have hlt : l.length < n := by have := h.ln; omega
  obtain ⟨v, hv⟩ := h.ca l.length (by have := h.n64; omega)
  have keep : ∀ o, o ≠ 1 → o ≠ 2 + l.length → ((w.setCell ⟨g, 2 + l.length, none⟩ (.int .i64 p)).setCell ⟨g, 1, none⟩ (.int .i64 (l.length + 1))).cell? ⟨g, o, none⟩ = w.cell? ⟨g, o, none⟩ := by
    intro o h1 h2
    rw [World.cell?_setCell_other _ _ _ _ (by intro e; injection e; omega), World.cell?_setCell_other _ _ _ _ (by intro e; injection e; omega)]
  have new : ((w.setCell ⟨g, 2 + l.length, none⟩ (.int .i64 p)).setCell ⟨g, 1, none⟩ (.int .i64 (l.length + 1))).cell? ⟨g, 2 + l.length, none⟩ = some (.int .i64 p) := by
    rw [World.cell?_setCell_other _ _ _ _ (by intro e; injection e; omega)]
    exact World.cell?_setCell_same' _ _ _ (by rw [hv]; rfl)
  refine ⟨h.n1, h.n64, by simp; omega, (keep 0 (by omega) (by omega)).trans h.cn, ?_, ?_, ?_, (keep 66 (by omega) (by have := h.n64; omega)).trans h.cf, fun o => by rw [World.frozen?_setCell, World.frozen?_setCell]; exact h.fz o⟩
  · have hm : (w.setCell ⟨g, 2 + l.length, none⟩ (.int .i64 p)).cell? ⟨g, 1, none⟩ = some (.int .i64 l.length) := by
      rw [World.cell?_setCell_other _ _ _ _ (by intro e; injection e; omega)]; exact h.cm
    rw [World.cell?_setCell_same' _ _ _ (by rw [hm]; rfl)]
    simp
  · intro j hj
    simp only [List.length_append, List.length_cons, List.length_nil] at hj
    by_cases e : j = l.length
    · subst e
      rw [new]
      simp [List.getD_eq_getElem?_getD]
    · rw [keep (2 + j) (by omega) (by omega), h.cp j (by omega)]
      simp only [List.getD_eq_getElem?_getD]
      rw [List.getElem?_append_left (by omega)]
  · intro j hj
    by_cases e : j = l.length
    · subst e; exact ⟨p, new⟩
    · obtain ⟨u, hu⟩ := h.ca j hj
      exact ⟨u, (keep (2 + j) (by omega) (by omega)).trans hu⟩

theorem zero_look (w : World) : (zeroValue 79).run Try.prog w = .ok (.agg #[.int .i64 0, .int .i64 0, .int .i64 0, .int .i64 0, .int .i64 0, .int .i64 0, .int .i64 0, .int .i64 0, .int .i64 0, .int .i64 0, .int .i64 0, .int .i64 0, .int .i64 0, .int .i64 0, .int .i64 0, .int .i64 0, .int .i64 0, .int .i64 0, .int .i64 0, .int .i64 0, .int .i64 0, .int .i64 0, .int .i64 0, .int .i64 0, .int .i64 0, .int .i64 0, .int .i64 0, .int .i64 0, .int .i64 0, .int .i64 0, .int .i64 0, .int .i64 0, .int .i64 0, .int .i64 0, .int .i64 0, .int .i64 0, .int .i64 0, .int .i64 0, .int .i64 0, .int .i64 0, .int .i64 0, .int .i64 0, .int .i64 0, .int .i64 0, .int .i64 0, .int .i64 0, .int .i64 0, .int .i64 0, .int .i64 0, .int .i64 0, .int .i64 0, .int .i64 0, .int .i64 0, .int .i64 0, .int .i64 0, .int .i64 0, .int .i64 0, .int .i64 0, .int .i64 0, .int .i64 0, .int .i64 0, .int .i64 0, .int .i64 0, .int .i64 0, .int .i64 0, .int .i64 0, .nilFunc]) w := by kernel_rfl

/-- What New lays. -/
def lookCells (n : Nat) : Array Value := (.int .i64 n :: .int .i64 0 :: (List.replicate 64 (.int .i64 0) ++ [.func (.func 44) #[] #[]])).toArray
theorem lookCells_lit (n : Nat) : lookCells n = #[.int .i64 n, .int .i64 0, .int .i64 0, .int .i64 0, .int .i64 0, .int .i64 0, .int .i64 0, .int .i64 0, .int .i64 0, .int .i64 0, .int .i64 0, .int .i64 0, .int .i64 0, .int .i64 0, .int .i64 0, .int .i64 0, .int .i64 0, .int .i64 0, .int .i64 0, .int .i64 0, .int .i64 0, .int .i64 0, .int .i64 0, .int .i64 0, .int .i64 0, .int .i64 0, .int .i64 0, .int .i64 0, .int .i64 0, .int .i64 0, .int .i64 0, .int .i64 0, .int .i64 0, .int .i64 0, .int .i64 0, .int .i64 0, .int .i64 0, .int .i64 0, .int .i64 0, .int .i64 0, .int .i64 0, .int .i64 0, .int .i64 0, .int .i64 0, .int .i64 0, .int .i64 0, .int .i64 0, .int .i64 0, .int .i64 0, .int .i64 0, .int .i64 0, .int .i64 0, .int .i64 0, .int .i64 0, .int .i64 0, .int .i64 0, .int .i64 0, .int .i64 0, .int .i64 0, .int .i64 0, .int .i64 0, .int .i64 0, .int .i64 0, .int .i64 0, .int .i64 0, .int .i64 0, .func (.func 44) #[] #[]] := by kernel_rfl

theorem lookCells_mid (n : Nat) (j : Nat) (h : j < 64) : (lookCells n)[2 + j]? = some (.int .i64 0) := by
  unfold lookCells
  rw [List.getElem?_toArray, show 2 + j = j + 1 + 1 by omega, List.getElem?_cons_succ, List.getElem?_cons_succ, List.getElem?_append_left (by simpa using h), List.getElem?_replicate, if_pos h]
theorem lookCells_last (n : Nat) : (lookCells n)[66]? = some (.func (.func 44) #[] #[]) := by
  unfold lookCells
  rw [List.getElem?_toArray, show 66 = 64 + 1 + 1 by omega, List.getElem?_cons_succ, List.getElem?_cons_succ, List.getElem?_append_right (by simp)]
  simp

theorem look_new (n : Nat) (w : World) (h1 : 1 ≤ n) (h2 : n ≤ 64) : LookAt (w.alloc (.cells (lookCells n) 79)) w.heap.size n [] := by
  have hc : ∀ o, (w.alloc (.cells (lookCells n) 79)).cell? ⟨w.heap.size, o, none⟩ = (lookCells n)[o]? := fun o => World.cell?_alloc_new ..
  refine ⟨h1, h2, Nat.zero_le _, (hc 0).trans rfl, (hc 1).trans rfl, fun j hj => by simp at hj, fun j hj => ⟨0, (hc _).trans (lookCells_mid n j hj)⟩, ?_, fun o => ?_⟩
  · rw [hc]; exact lookCells_last n
  · exact World.frozen?_alloc_new ..

theorem new_yes (n : Nat) (w : World) (h1 : 1 ≤ n) (h2 : n ≤ 64) : Calls Try.prog 18 #[.int .i64 n] w fun e w' =>
    e = .returned (.tuple #[.pointer (some ⟨w.heap.size, 0, none⟩), .int .i64 0]) ∧ LookAt w' w.heap.size n [] ∧ Below w.heap.size w w' ∧ w'.heap.size = w.heap.size + 1 := by
  have hz := zero_look
  have hn := look_new n w h1 h2
  rw [lookCells_lit] at hn
  have HN := Lib.hid hn
  clear hn
  have h3 : (1 : Int) ≤ (n : Int) := by omega
  have h4 : (n : Int) ≤ 64 := by omega
  go_enter Try.func18, Try.ntmps18
  go_wp2_with fail
  go_ret2
  exact ⟨rfl, HN.out, by go_grown, by simp⟩

theorem new_no (n : Int) (w : World) (h : n < 1 ∨ 64 < n) : Calls Try.prog 18 #[.int .i64 n] w fun e w' => e = .returned (.tuple #[.pointer none, .int .i64 2]) ∧ w' = w := by
  by_cases h1 : n < 1
  · go_enter Try.func18, Try.ntmps18
    go_wp2_with fail
    go_ret2
    exact ⟨rfl, rfl⟩
  · have h2 : 64 < n := by omega
    go_enter Try.func18, Try.ntmps18
    go_wp2_with fail
    go_ret2
    exact ⟨rfl, rfl⟩

end Go.Proofs.Ytkjmnmcekhnkmab
