/- The document's looks (package capstanref24): what one in memory is, and the contracts of its functions, each over the same plain values as package room's: for every look. -/
import Derived.Test.YtkjmnmcekhnkmabRoomB
import Derived.OwnWalk
import Derived.Carry
import Derived.Maps.AppendAt
import Derived.Deep.AppendLies
namespace Go.Proofs.Ytkjmnmcekhnkmab
open Go.RowKit
set_option linter.unusedSimpArgs false
set_option linter.unusedVariables false

theorem info3' : (Try.prog.info? 3).map (fun i => (i.zero, i.size, i.bytes)) = some (some (.int .i64 0), 1, 8) := by kernel_rfl

/-- The document's look at n positions, of which l have been read: block g; its row of positions lies behind it. -/
structure RefLook (w : World) (g n : Nat) (l : List Int) : Prop where
  n1 : 1 ≤ n
  n64 : n ≤ 64
  ln : l.length ≤ n
  cn : w.cell? ⟨g, 0, none⟩ = some (.int .i64 n)
  cv : ∃ v, w.cell? ⟨g, 1, none⟩ = some v ∧ w.ownsRow (g + 1) 3 1 v l.length (l.map (.int .i64))
  fz : ∀ o, w.frozen? ⟨g, o, none⟩ = false

theorem RefLook.lt {w : World} {g n : Nat} {l : List Int} (h : RefLook w g n l) : g < w.heap.size := World.block_lt_of_cell? w _ h.cn

theorem ownsRow_blocks {w w' : World} {base e size n : Nat} {v : Value} {xs : List Value} (h : w.ownsRow base e size v n xs) (hb : ∀ k, base ≤ k → w'.heap[k]? = w.heap[k]?) : w'.ownsRow base e size v n xs := by
  refine ⟨h.1, ?_⟩
  rcases h.2 with h0 | ⟨g, cap, cur, h1, h2, h3, h4⟩
  · exact .inl h0
  · exact .inr ⟨g, cap, cur, h1, h2, (hb g h2).trans h3, h4⟩

/-- A world in which block g and all behind it are as they were. -/
theorem RefLook.same {w w' : World} {g n : Nat} {l : List Int} (h : RefLook w g n l) (hb : ∀ k, g ≤ k → w'.heap[k]? = w.heap[k]?) : RefLook w' g n l := by
  obtain ⟨v, hv, ho⟩ := h.cv
  have hc : ∀ o, w'.cell? ⟨g, o, none⟩ = w.cell? ⟨g, o, none⟩ := fun o => World.cell?_of_block (hb g (Nat.le_refl _))
  have hf : ∀ o, w'.frozen? ⟨g, o, none⟩ = w.frozen? ⟨g, o, none⟩ := fun o => World.frozen?_of_block (hb g (Nat.le_refl _))
  exact ⟨h.n1, h.n64, h.ln, (hc _).trans h.cn, ⟨v, (hc _).trans hv, ownsRow_blocks ho (fun k hk => hb k (by omega))⟩, fun o => (hf o).trans (h.fz o)⟩
theorem RefLook.drewN {w : World} {g n : Nat} {l : List Int} (h : RefLook w g n l) (k : Nat) : RefLook (w.drewN k) g n l := h.same (fun _ _ => rfl)
/-- The other look is read on: its block lies ahead of g. -/
theorem RefLook.other {w : World} {g n g1 o1 o2 : Nat} {u v : Value} {l : List Int} (h : RefLook w g n l) (hg : g1 < g) : RefLook ((w.setCell ⟨g1, o1, none⟩ u).setCell ⟨g1, o2, none⟩ v) g n l :=
  h.same (fun k hk => by rw [Below.heap_setCell _ _ _ _ (by show k ≠ g1; omega), Below.heap_setCell _ _ _ _ (by show k ≠ g1; omega)])

theorem rnew_yes (n : Nat) (w : World) (h1 : 1 ≤ n) (h2 : n ≤ 64) : Calls Try.prog 19 #[.int .i64 n] w fun e w' =>
    e = .returned (.tuple #[.pointer (some ⟨w.heap.size, 0, none⟩), .int .i64 0]) ∧ RefLook w' w.heap.size n [] ∧ Below w.heap.size w w' := by
  have h3 : (1 : Int) ≤ (n : Int) := by omega
  have h4 : (n : Int) ≤ 64 := by omega
  have hn : RefLook (w.alloc (.cells #[.int .i64 n, .slice none 0 0] 82)) w.heap.size n [] :=
    ⟨h1, h2, Nat.zero_le _, by simp, ⟨.slice none 0 0, by simp, World.ownsRow_nil _ _ _ _⟩, fun o => World.frozen?_alloc_new ..⟩
  have HN := Lib.hid hn
  clear hn
  go_enter Try.func19, Try.ntmps19
  go_wp2_with fail
  go_ret2
  exact ⟨rfl, HN.out, by go_grown⟩

theorem rnew_no (n : Int) (w : World) (h : n < 1 ∨ 64 < n) : Calls Try.prog 19 #[.int .i64 n] w fun e w' => e = .returned (.tuple #[.pointer none, .int .i64 2]) ∧ w' = w := by
  by_cases h1 : n < 1
  · go_enter Try.func19, Try.ntmps19
    go_wp2_with fail
    go_ret2
    exact ⟨rfl, rfl⟩
  · have h2 : 64 < n := by omega
    go_enter Try.func19, Try.ntmps19
    go_wp2_with fail
    go_ret2
    exact ⟨rfl, rfl⟩

/-- A slice that owns a row, written out. -/
theorem own_slice {w : World} {base e : Nat} {v : Value} {n : Nat} {xs : List Value} (h : w.ownsRow base e 1 v n xs) : ∃ A c, v = .slice A n c := by
  rcases h.2 with ⟨rfl, rfl⟩ | ⟨g, cap, cur, h1, -⟩
  · exact ⟨_, _, rfl⟩
  · exact ⟨_, _, h1⟩

/-- Behind an append onto a row that lies behind g: g's own cells are as they were. -/
theorem grown_cell {w w2 : World} {o : Obj} {g k : Nat} {v u : Value} {w0 : World} (hg : (w.alloc o).grownBy w2 v.ownBlock) (hob : ∀ q, v.ownBlock = some q → g + 1 ≤ q ∧ q < w0.heap.size) (hlt : g < w.heap.size)
    (hc : w.cell? ⟨g, k, none⟩ = some u) : w2.cell? ⟨g, k, none⟩ = some u := by
  have hb : w2.heap[g]? = (w.alloc o).heap[g]? := hg.block g (by simp; omega) (fun e => by have := (hob g e.symm).1; omega)
  rw [World.cell?_of_block (a := ⟨g, k, none⟩) hb, World.cell?_alloc_past _ _ _ hlt]; exact hc
theorem grown_frozen {w w2 : World} {o : Obj} {g k : Nat} {v : Value} {w0 : World} (hg : (w.alloc o).grownBy w2 v.ownBlock) (hob : ∀ q, v.ownBlock = some q → g + 1 ≤ q ∧ q < w0.heap.size) (hlt : g < w.heap.size)
    (hc : w.frozen? ⟨g, k, none⟩ = false) : w2.frozen? ⟨g, k, none⟩ = false := by
  have hb : w2.heap[g]? = (w.alloc o).heap[g]? := hg.block g (by simp; omega) (fun e => by have := (hob g e.symm).1; omega)
  rw [World.frozen?_of_block (a := ⟨g, k, none⟩) hb, World.frozen?_alloc_past _ _ _ hlt]; exact hc

theorem rnext_any (g n : Nat) (l : List Int) (w : World) (h : RefLook w g n l) : Calls Try.prog 21 #[.pointer (some ⟨g, 0, none⟩)] w fun e w' =>
    e = .returned (.tuple #[.int .i64 (if l.length = n then 0 else (l.length : Int)), .bool (!decide (l.length = n))]) ∧ ∃ k, w' = w.drewN k := by
  obtain ⟨n1, n64, ln, cn, ⟨v, cv, ho⟩, -⟩ := h
  obtain ⟨A, c, rfl⟩ := own_slice ho
  clear ho
  by_cases hq : l.length = n
  · have h1 : ((l.length : Int) == (n : Int)) = true := by rw [beq_iff_eq]; omega
    rw [if_pos hq, decide_eq_true hq]
    clear hq
    go_enter Try.func21, Try.ntmps21
    go_wp2_with fail
    go_quiet (fail)
    go_wp2_with fail
    go_ret2
    exact ⟨rfl, _, rfl⟩
  · have h1 : ((l.length : Int) == (n : Int)) = false := by rw [beq_eq_false_iff_ne]; omega
    rw [if_neg hq, decide_eq_false hq]
    clear hq
    go_enter Try.func21, Try.ntmps21
    go_wp2_with fail
    go_quiet (fail)
    go_wp2_with fail
    go_ret2
    exact ⟨rfl, _, rfl⟩

theorem rin_any (x : Int) (w : World) : Calls Try.prog 45 #[.int .i64 x] w fun e w' => e = .returned (.bool (inB x)) ∧ w' = w := by
  by_cases h1 : 0 ≤ x
  · by_cases h2 : x ≤ 1099511627776
    all_goals
      go_enter Try.func45, Try.ntmps45
      go_wp2
      go_ret
      refine ⟨ret_bool ?_, rfl⟩
      first | (symm; rw [inB, decide_eq_true_iff]; omega) | (symm; rw [inB, decide_eq_false_iff_not]; omega)
  · go_enter Try.func45, Try.ntmps45
    go_wp2
    go_ret
    refine ⟨ret_bool ?_, rfl⟩
    (symm; rw [inB, decide_eq_false_iff_not]; omega)

theorem mnl_take0 (l : List Int) (k : Nat) (h : k < l.length) (m : Int) (hm : m = if k = 0 then l.getD 0 0 else mnl (l.take k)) :
    (if l.getD k 0 < m then l.getD k 0 else m) = mnl (l.take (k + 1)) := by
  by_cases e : k = 0
  · subst e
    rw [if_pos rfl] at hm
    subst hm
    rw [if_neg (by omega)]
    match l, h with
    | x :: xs, _ => rfl
  · rw [if_neg e] at hm
    subst hm
    rw [mnl_take l k (by omega) h]

set_option maxHeartbeats 1000000 in
theorem rleast_any (g n : Nat) (l : List Int) (w : World) (h : RefLook w g n l) : Calls Try.prog 22 #[.pointer (some ⟨g, 0, none⟩)] w fun e w' =>
    e = .returned (.tuple #[.int .i64 (mnl l), .bool (decide (1 ≤ l.length ∧ l.length = n))]) ∧ ∃ k, w' = w.drewN k := by
  obtain ⟨n1, n64, ln, cn, ⟨v, cv, ho⟩, -⟩ := h
  by_cases h0 : l.length = 0
  · obtain ⟨A, c, rfl⟩ := own_slice ho
    have h1 : ((l.length : Int) == 0) = true := by rw [beq_iff_eq]; omega
    rw [decide_eq_false (by omega), show mnl l = 0 by rw [List.length_eq_zero_iff.1 h0]; rfl]
    clear h0 ho
    go_enter Try.func22, Try.ntmps22
    go_wp2_with fail
    go_ret2
    exact ⟨rfl, 0, rfl⟩
  · obtain ⟨gb, c, rfl, hgb, hlt⟩ := ho.form (by omega)
    have hcb : ∀ j, j < l.length → w.cell? ⟨gb, j, none⟩ = some (.int .i64 (l.getD j 0)) := by
      intro j hj
      rw [ho.cellAt j (by omega), List.getElem?_map, List.getD_eq_getElem?_getD, List.getElem?_eq_getElem hj]
      rfl
    have hx0 := hcb 0 (by omega)
    have HCB := Lib.hid hcb
    have h1 : ((l.length : Int) == 0) = false := by rw [beq_eq_false_iff_ne]; omega
    have h2 : ((l.length : Int) == (n : Int)) = decide (1 ≤ l.length ∧ l.length = n) := by
      rw [Bool.eq_iff_iff]; simp; omega
    have h3 : (l.length : Int) ≤ 64 := by omega
    have h4 : (0 : Int) < (l.length : Int) := by omega
    have H2 := Lib.hid h2
    have HO := Lib.hid ho
    clear h0 hcb h2 ho
    go_enter Try.func22, Try.ntmps22
    go_wp2_with fail
    go_loop [4, 5] (fun m i => ∃ k : Nat, k ≤ l.length ∧ i = .int .i64 k ∧ m = .int .i64 (if k = 0 then l.getD 0 0 else mnl (l.take k))) (fun _ i => l.length - (intOf i).toNat)
    case atStart => exact ⟨0, by omega, rfl, by simp⟩
    case round =>
      obtain ⟨k, hk, rfl, rfl⟩ := hrel
      by_cases hlt2 : k < l.length
      · have hx := HCB.out k hlt2
        have hst := mnl_take0 l k hlt2 _ rfl
        generalize hm : (if k = 0 then l.getD 0 0 else mnl (l.take k)) = m at *
        have hne : ¬ k + 1 = 0 := by omega
        generalize l.getD k 0 = x at *
        by_cases hc : x < m
        · rw [if_pos hc] at hst
          have HST := Lib.hid hst
          clear hst hm
          go_wp2_with fail
          go_round
          case rel => exact ⟨k + 1, by omega, by go_num, by rw [if_neg (by omega), HST.out]⟩
          case measure => simp [intOf]; omega
        · rw [if_neg hc] at hst
          have HST := Lib.hid hst
          clear hst hm
          go_wp2_with fail
          go_round
          case rel => exact ⟨k + 1, by omega, by go_num, by rw [if_neg (by omega), HST.out]⟩
          case measure => simp [intOf]; omega
      · have e1 : (if k = 0 then l.getD 0 0 else mnl (l.take k)) = mnl l := by
          rw [if_neg (by omega), List.take_of_length_le (by omega)]
        rw [e1]
        clear e1
        go_wp2_with fail
        go_quiet (fail)
        go_wp2_with fail
        go_ret2
        exact ⟨ret_ib rfl H2.out, _, rfl⟩

theorem rroom_any (g n : Nat) (l : List Int) (pos ar : Int) (w : World) (h : RefLook w g n l) :
    Calls Try.prog 23 #[.pointer (some ⟨g, 0, none⟩), .int .i64 pos, .int .i64 ar] w fun e w' => e = .returned (.bool (roomB n l pos ar)) ∧ ∃ k, w' = w.drewN k := by
  have hl := rleast_any g n l w h
  have hcn := h.cn
  have hn1 := h.n1
  have hn2 := h.n64
  have HL := Lib.hid hl
  clear hl h
  unfold roomB
  cases ho : decide (1 ≤ l.length ∧ l.length = n)
  · rw [Bool.false_and]
    go_enter Try.func23, Try.ntmps23
    go_wp2_with (go_at_call 22; refine HL.out.mono ?_; rintro e w' ⟨rfl, nq, rfl⟩)
    go_ret
    exact ⟨rfl, _, rfl⟩
  rw [Bool.true_and]
  cases hp : inB pos
  · rw [Bool.false_and]
    go_enter Try.func23, Try.ntmps23
    go_wp2_with (first | (go_at_call 22; refine HL.out.mono ?_; rintro e w' ⟨rfl, nq, rfl⟩) | (go_at_call 45; refine (rin_any _ _).mono ?_; rintro e w' ⟨rfl, rfl⟩) | fail)
    go_ret
    exact ⟨rfl, _, rfl⟩
  rw [Bool.true_and]
  cases ha : inB ar
  · rw [Bool.false_and]
    go_enter Try.func23, Try.ntmps23
    go_wp2_with (first | (go_at_call 22; refine HL.out.mono ?_; rintro e w' ⟨rfl, nq, rfl⟩) | (go_at_call 45; refine (rin_any _ _).mono ?_; rintro e w' ⟨rfl, rfl⟩) | fail)
    go_ret
    exact ⟨rfl, _, rfl⟩
  rw [Bool.true_and]
  cases hm : inB (mnl l)
  · rw [Bool.false_and]
    go_enter Try.func23, Try.ntmps23
    go_wp2_with (first | (go_at_call 22; refine HL.out.mono ?_; rintro e w' ⟨rfl, nq, rfl⟩) | (go_at_call 45; refine (rin_any _ _).mono ?_; rintro e w' ⟨rfl, rfl⟩) | fail)
    go_ret
    exact ⟨rfl, _, rfl⟩
  rw [Bool.true_and]
  obtain ⟨p1, p2⟩ := inB_iff.1 hp
  obtain ⟨a1, a2⟩ := inB_iff.1 ha
  obtain ⟨m1, m2⟩ := inB_iff.1 hm
  go_enter Try.func23, Try.ntmps23
  go_wp2_with (first | (go_at_call 22; refine HL.out.mono ?_; rintro e w' ⟨rfl, nq, rfl⟩) | (go_at_call 45; refine (rin_any _ _).mono ?_; rintro e w' ⟨rfl, rfl⟩) | fail)
  go_ret
  refine ⟨ret_bool ?_, _, rfl⟩
  rfl

theorem rread_full (g n : Nat) (l : List Int) (p : Int) (w : World) (h : RefLook w g n l) (hq : l.length = n) :
    Calls Try.prog 25 #[.pointer (some ⟨g, 0, none⟩), .int .i64 p] w fun e w' => e = .returned (.int .i64 2) ∧ ∃ k, w' = w.drewN k := by
  obtain ⟨n1, n64, ln, cn, ⟨v, cv, ho⟩, -⟩ := h
  obtain ⟨A, c, rfl⟩ := own_slice ho
  have h1 : ((l.length : Int) == (n : Int)) = true := by rw [beq_iff_eq]; omega
  clear hq ho
  go_enter Try.func25, Try.ntmps25
  go_wp2_with fail
  go_quiet (fail)
  go_wp2_with fail
  go_ret
  exact ⟨rfl, _, rfl⟩

set_option maxHeartbeats 1000000 in
theorem rread_any (g n : Nat) (l : List Int) (p : Int) (w : World) (h : RefLook w g n l) (hq : l.length ≠ n) :
    Calls Try.prog 25 #[.pointer (some ⟨g, 0, none⟩), .int .i64 p] w fun e w' => e = .returned (.int .i64 0) ∧ RefLook w' g n (l ++ [p]) ∧ Below g w w' := by
  obtain ⟨i0, hi, hz0, hz1, hz2⟩ := info_parts info3'
  have hlt : g < w.heap.size := h.lt
  have hl64 : l.length < 64 := by have := h.ln; have := h.n64; omega
  have hw := h
  obtain ⟨n1, n64, ln, cn, ⟨v, cv, ho⟩, fz⟩ := h
  have h1 : ((l.length : Int) == (n : Int)) = false := by rw [beq_eq_false_iff_ne]; omega
  have hlt3 : l.length < n := by omega
  have hv := own_slice ho
  have HO := Lib.hid ho
  have HW := Lib.hid hw
  have HF := Lib.hid fz
  have f1 := fz 1
  have hob := ho.lt
  obtain ⟨A, c, rfl⟩ := hv
  have k3 : l.length + 1 ≤ maxLen := by unfold maxLen; omega
  have k4 : (l.length + 1) * 8 ≤ 140737488355328 := by omega
  clear hq ho hw fz
  go_enter Try.func25, Try.ntmps25
  go_wp2_with fail
  go_quiet (fail)
  obtain ⟨W, hW⟩ : ∃ W, W = w.drewN nq := ⟨_, rfl⟩
  rw [← hW]
  have ho : W.ownsRow (g + 1) 3 1 (.slice A l.length c) l.length (l.map (.int .i64)) := by rw [hW]; exact ownsRow_blocks HO.out (fun _ _ => rfl)
  have hs : W.heap.size = w.heap.size := by rw [hW]; rfl
  have g0 : W.cell? ⟨g, 0, none⟩ = some (.int .i64 n) := by rw [hW]; simpa using cn
  have g1 : W.cell? ⟨g, 1, none⟩ = some (.slice A l.length c) := by rw [hW]; simpa using cv
  have gf : ∀ o, W.frozen? ⟨g, o, none⟩ = false := fun o => by rw [hW]; simpa using HF.out o
  have hBW : Below g w W := by rw [hW]; exact below_drewN (Below.refl _ _) _
  have gf1 := gf 1
  have GF := Lib.hid gf
  have HO2 := Lib.hid ho
  have hlt2 : g < W.heap.size := by omega
  clear hW hs ho gf cn cv f1
  go_wp2_with (at_builtin; refine wpList_append_own _ rfl _ _ 29 rfl (g + 1) 3 i0 (.int .i64 0) 1 8 Try.underlying29 hi hz0 hz1 hz2 rfl (by decide) _ _ _ rfl (HO2.out.alloc _) ⟨W.heap.size, 0, none⟩ 1 1 [.int .i64 p] rfl rfl (cell_one_new _ _ _) (by simp [Value.oneCell']) k3 k4 (by simp; omega) ?_; intro v' w2 hown' hgrow _; have HOW := Lib.hid hown'; have HG := Lib.hid hgrow; have c1 : w2.cell? ⟨g, 1, none⟩ = some (.slice A l.length c) := grown_cell hgrow hob hlt2 g1; have c0 : w2.cell? ⟨g, 0, none⟩ = some (.int .i64 n) := grown_cell hgrow hob hlt2 g0; have f2 : w2.frozen? ⟨g, 1, none⟩ = false := grown_frozen hgrow hob hlt2 gf1; have FF : Hid (∀ o, w2.frozen? ⟨g, o, none⟩ = false) := Lib.hid (fun o => grown_frozen hgrow hob hlt2 (GF.out o)); have hv' := own_slice hown'; obtain ⟨A', c', rfl⟩ := hv'; clear hown' hgrow)
  go_ret
  refine ⟨rfl, ⟨n1, n64, by simp; omega, ?_, ⟨_, World.cell?_setCell_same' _ _ _ (by rw [c1]; rfl), ?_⟩, fun o => by rw [World.frozen?_setCell]; exact FF.out o⟩, ?_⟩
  · rw [World.cell?_setCell_other _ _ _ _ (by intro e; injection e; omega)]; exact c0
  · refine ownsRow_blocks (w := w2) ?_ (fun k hk => Below.heap_setCell _ _ _ _ (by show k ≠ g; omega))
    simpa using HOW.out
  · exact ((hBW.alloc (by omega) _).grown HG.out (by first | (simp; done) | (simp; omega)) (fun q hq => by have := (hob q hq).1; omega)).setCell (Nat.le_refl _) _

end Go.Proofs.Ytkjmnmcekhnkmab
