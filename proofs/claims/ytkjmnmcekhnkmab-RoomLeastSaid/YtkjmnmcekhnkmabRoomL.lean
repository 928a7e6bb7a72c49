/- The least is one of the positions, and none is below it; turned about they have the same; there is room up to just that and L less N: the law's walk. -/
import Derived.Test.YtkjmnmcekhnkmabRoomB
import Derived.OwnWalk
import Derived.Carry
import Derived.Maps.AppendAt
namespace Go.Proofs.Ytkjmnmcekhnkmab
open Go.RowKit
set_option linter.unusedSimpArgs false
set_option linter.unusedVariables false

theorem info3 : (Try.prog.info? 3).map (fun i => (i.zero, i.size, i.bytes)) = some (some (.int .i64 0), 1, 8) := by kernel_rfl

/-- Where the statement asks nothing. -/
theorem roomLeast_out (A : Option Addr) (n cap : Nat) (ar : Int) (w : World) (hn : (n : Int) ≤ 9223372036854775807) (h : (n : Int) < 1 ∨ 64 < (n : Int) ∨ ar < n ∨ 1000 < ar) :
    Calls Try.prog 4 #[.slice A n cap, .int .i64 ar] w fun e w' => e = .returned (.bool true) ∧ Below w.heap.size w w' := by
  by_cases h1 : (n : Int) < 1
  · clear h
    go_enter Try.func4, Try.ntmps4
    go_wp2_with (go_at_call 14; refine (awake24_any _).mono ?_; rintro e w' ⟨rfl, hb⟩)
    go_ret
    exact ⟨rfl, hb⟩
  by_cases h2 : 64 < (n : Int)
  · clear h
    go_enter Try.func4, Try.ntmps4
    go_wp2_with (go_at_call 14; refine (awake24_any _).mono ?_; rintro e w' ⟨rfl, hb⟩)
    go_ret
    exact ⟨rfl, hb⟩
  by_cases h3 : ar < n
  · clear h
    go_enter Try.func4, Try.ntmps4
    go_wp2_with (go_at_call 14; refine (awake24_any _).mono ?_; rintro e w' ⟨rfl, hb⟩)
    go_ret
    exact ⟨rfl, hb⟩
  have h4 : 1000 < ar := by omega
  clear h
  go_enter Try.func4, Try.ntmps4
  go_wp2_with (go_at_call 14; refine (awake24_any _).mono ?_; rintro e w' ⟨rfl, hb⟩)
  go_ret
  exact ⟨rfl, hb⟩

/-- The list turned about, as far as it has been gone through: what lies from k on. -/
def backOf (l : List Int) (k : Nat) : List Int := (l.drop k).reverse

theorem backOf_step (l : List Int) (k : Nat) (h : k < l.length) : backOf l k = backOf l (k + 1) ++ [l.getD k 0] := by
  unfold backOf
  rw [List.drop_eq_getElem_cons h, List.reverse_cons, List.getD_eq_getElem?_getD, List.getElem?_eq_getElem h]; rfl

theorem mnl_spec (l : List Int) (k : Nat) (h1 : 1 ≤ k) (hk : k ≤ l.length) : (∃ j, j < k ∧ l.getD j 0 = mnl (l.take k)) ∧ ∀ j, j < k → mnl (l.take k) ≤ l.getD j 0 := by
  induction k with
  | zero => omega
  | succ k ih =>
    by_cases e : k = 0
    · subst e
      match l, hk with
      | x :: xs, _ =>
        refine ⟨⟨0, by omega, rfl⟩, fun j hj => ?_⟩
        obtain rfl : j = 0 := by omega
        exact Int.le_refl _
    · obtain ⟨⟨j, hj, ej⟩, hall⟩ := ih (by omega) (by omega)
      rw [mnl_take l k (by omega) (by omega)]
      by_cases c : l.getD k 0 < mnl (l.take k)
      · rw [if_pos c]
        refine ⟨⟨k, by omega, rfl⟩, fun i hi => ?_⟩
        by_cases ei : i = k
        · subst ei; exact Int.le_refl _
        · have := hall i (by omega); omega
      · rw [if_neg c]
        refine ⟨⟨j, by omega, ej⟩, fun i hi => ?_⟩
        by_cases ei : i = k
        · subst ei; omega
        · exact hall i (by omega)

theorem mnl_all (l : List Int) (h1 : 1 ≤ l.length) : (∃ j, j < l.length ∧ l.getD j 0 = mnl l) ∧ ∀ j, j < l.length → mnl l ≤ l.getD j 0 := by
  have := mnl_spec l l.length h1 (Nat.le_refl _)
  rwa [List.take_of_length_le (Nat.le_refl _)] at this

theorem getD_rev (l : List Int) (j : Nat) (h : j < l.length) : l.reverse.getD j 0 = l.getD (l.length - 1 - j) 0 := by
  simp only [List.getD_eq_getElem?_getD]
  rw [List.getElem?_reverse h]

theorem mnl_rev (l : List Int) (h1 : 1 ≤ l.length) : mnl l.reverse = mnl l := by
  obtain ⟨⟨i, hi, ei⟩, ai⟩ := mnl_all l h1
  obtain ⟨⟨j, hj, ej⟩, aj⟩ := mnl_all l.reverse (by simpa using h1)
  rw [List.length_reverse] at hj aj
  have h2 := ai (l.length - 1 - j) (by omega)
  have h3 := aj (l.length - 1 - i) (by omega)
  rw [getD_rev l _ hj] at ej
  rw [getD_rev l _ (by omega), show l.length - 1 - (l.length - 1 - i) = i by omega] at h3
  omega

def anyB (l : List Int) (m : Int) (k : Nat) : Bool := (l.take k).any (· == m)
theorem anyB_step (l : List Int) (m : Int) (k : Nat) (h : k < l.length) : anyB l m (k + 1) = (anyB l m k || (l.getD k 0 == m)) := by
  unfold anyB
  rw [take_snoc' l k h, List.any_append]
  simp
theorem anyB_all (l : List Int) (h1 : 1 ≤ l.length) : anyB l (mnl l) l.length = true := by
  obtain ⟨⟨i, hi, ei⟩, -⟩ := mnl_all l h1
  unfold anyB
  rw [List.take_of_length_le (Nat.le_refl _), List.any_eq_true]
  refine ⟨l.getD i 0, ?_, by rw [ei]; simp⟩
  rw [← getD_is l i hi]
  exact List.getElem_mem hi

theorem room_most (l : List Int) (m ar : Int) (hm : mnl l = m) (h1 : 1 ≤ l.length) (h2 : l.length ≤ 64) (m0 : 0 ≤ m) (m1 : m ≤ 1000000) (h3 : (l.length : Int) ≤ ar) (h4 : ar ≤ 1000) :
    roomB l.length l (m + ar - l.length) ar = true ∧ roomB l.length l (m + ar - l.length + 1) ar = false := by
  have hr0 : decide (1 ≤ l.length ∧ l.length = l.length) = true := by simp; omega
  have hi1 : inB (m + ar - l.length) = true := inB_iff.2 (by omega)
  have hi2 : inB ar = true := inB_iff.2 (by omega)
  have hi3 : inB m = true := inB_iff.2 (by omega)
  have hi4 : inB (m + ar - l.length + 1) = true := inB_iff.2 (by omega)
  unfold roomB
  rw [hm, hr0, hi1, hi2, hi3, hi4, decide_eq_true (by omega), decide_eq_false (by omega)]
  exact ⟨rfl, rfl⟩

set_option maxRecDepth 100000 in
set_option maxHeartbeats 4000000 in
theorem roomLeast_in (g o cap : Nat) (l : List Int) (ar : Int) (w : World) (h1 : 1 ≤ l.length) (h2 : l.length ≤ 64) (h3 : (l.length : Int) ≤ ar) (h4 : ar ≤ 1000) (hg : g < w.heap.size)
    (hc : ∀ j, j < l.length → w.cell? ⟨g, o + j, none⟩ = some (.int .i64 (l.getD j 0))) (hr : ∀ j, j < l.length → -9223372036854775808 ≤ l.getD j 0 ∧ l.getD j 0 ≤ 9223372036854775807) :
    Calls Try.prog 4 #[.slice (some ⟨g, o, none⟩) l.length cap, .int .i64 ar] w fun e w' => e = .returned (.bool true) ∧ Below w.heap.size w w' := by
  obtain ⟨i0, hi, hz0, hz1, hz2⟩ := info_parts info3
  have HC := Lib.hid hc
  have HR := Lib.hid hr
  clear hc hr
  have h5 : (1 : Int) ≤ (l.length : Int) := by omega
  have h6 : (l.length : Int) ≤ 64 := by omega
  go_enter Try.func4, Try.ntmps4
  go_wp2_with (go_at_call 14; refine (awake24_any _).mono ?_; rintro e w1 ⟨rfl, hb⟩)
  have hs1 := hb.size
  go_loopw [5, 6] (fun v i wr => ∃ k : Nat, k ≤ l.length ∧ i = .int .i64 ((k : Int) - 1) ∧ wr.ownsRow w1.heap.size 3 1 v (backOf l k).length ((backOf l k).map (Value.int .i64)) ∧ Below w.heap.size w wr ∧ w1.heap.size ≤ wr.heap.size ∧
      (∀ j, k ≤ j → j < l.length → 0 ≤ l.getD j 0 ∧ l.getD j 0 ≤ 1000000)) (fun _ i _ => ((intOf i) + 1).toNat)
  case atStart =>
    refine ⟨l.length, by omega, by go_num, ?_, hb, Nat.le_refl _, fun j h h' => by omega⟩
    have e : backOf l l.length = [] := by unfold backOf; simp
    rw [e]
    exact World.ownsRow_nil _ _ _ _
  case round =>
    obtain ⟨k, hk, rfl, hown, hB, hsz, hrng⟩ := hrel
    have HOWN := Lib.hid hown
    have HRNG := Lib.hid hrng
    clear hown hrng
    cases k with
    | zero =>
      have hown := HOWN.out
      have hb0 : backOf l 0 = l.reverse := by unfold backOf; simp
      rw [hb0, List.length_reverse] at hown
      obtain ⟨gb, cb, rfl⟩ : ∃ gb cb, u5 = Value.slice (some ⟨gb, 0, none⟩) l.length cb := by
        rcases hown.2 with ⟨-, hn⟩ | ⟨gb, cb, cur, hv, -⟩
        · omega
        · exact ⟨gb, cb, hv⟩
      have hgb := hown.lt gb rfl
      have hcb : ∀ j, j < l.length → wr.cell? ⟨gb, 0 + j, none⟩ = some (.int .i64 (l.reverse.getD j 0)) := by
        intro j hj
        rw [Nat.zero_add, hown.cellAt j (by omega), List.getElem?_map, List.getD_eq_getElem?_getD, List.getElem?_eq_getElem (by simpa using hj)]
        rfl
      have HCB := Lib.hid hcb
      have hxb := mnl_all l h1
      have HXB := Lib.hid hxb
      have hrg : 0 ≤ mnl l ∧ mnl l ≤ 1000000 := by
        obtain ⟨⟨j, hj, ej⟩, -⟩ := hxb
        rw [← ej]; exact HRNG.out j (by omega) hj
      have hcw : Hid (∀ j, j < l.length → wr.cell? ⟨g, o + j, none⟩ = some (.int .i64 (l.getD j 0))) :=
        Lib.hid (fun j hj => (hB.cell (p := ⟨g, o + j, none⟩) hg).trans (HC.out j hj))
      have hgw : g < wr.heap.size := by have := hB.size; omega
      clear hcb hxb hown HOWN hb0 HRNG
      go_wp2_with fail
      refine (look_any g o cap l wr h1 h2 hgw hcw.out).mono ?_
      rintro e w2 ⟨rfl, hL1, hB2, hs2⟩
      have HL1 := Lib.hid hL1
      have HS2 := Lib.hid hs2
      clear hL1 hs2
      go_wp2_with fail
      have hlk := look_any gb 0 cb l.reverse w2 (by simpa using h1) (by simpa using h2) (by have := hB2.size; omega) (by
        intro j hj
        exact (hB2.cell (p := ⟨gb, 0 + j, none⟩) hgb.2).trans (HCB.out j (by simpa using hj)))
      rw [List.length_reverse] at hlk
      refine hlk.mono ?_
      clear hlk
      rintro e w3 ⟨rfl, hL2, hB3, hs3⟩
      have HLA : Hid (∀ q, LookAt (w3.drewN q) wr.heap.size l.length l) := Lib.hid (fun q => (HL1.out.below hB3 (by have := HS2.out; omega)).drewN q)
      have HLB : Hid (∀ q, LookAt (w3.drewN q) w2.heap.size l.length l.reverse) := Lib.hid (fun q => hL2.drewN q)
      have HB4 : Below w.heap.size w w3 := (hB.trans (hB2.mono (by omega))).trans (hB3.mono (by have := HS2.out; omega))
      have hcw3 : Hid (∀ q j, j < l.length → (w3.drewN q).cell? ⟨g, o + j, none⟩ = some (.int .i64 (l.getD j 0))) := by
        apply Lib.hid; intro q j hj
        have := (HB4.cell (p := ⟨g, o + j, none⟩) hg).trans (HC.out j hj)
        simpa using this
      have HS3 := Lib.hid hs3
      clear hL2 hs3 hB2 hB3 HL1 HCB hcw HS2 HS3
      go_wp2_with fail
      have q1 := least_any _ _ _ _ (HLA.out 0)
      rw [show decide (1 ≤ l.length ∧ l.length = l.length) = true by simp; omega] at q1
      refine q1.mono ?_
      clear q1
      rintro e w4 ⟨rfl, n4, rfl⟩
      go_wp2_with fail
      have q1 := least_any _ _ _ _ (HLB.out n4)
      rw [show decide (1 ≤ l.reverse.length ∧ l.reverse.length = l.length) = true by simp; omega, mnl_rev l h1] at q1
      refine q1.mono ?_
      clear q1
      rintro e w4 ⟨rfl, n5, rfl⟩
      generalize hM : mnl l = m at *
      have HM := Lib.hid hM
      clear hM
      go_wp2_with fail
      go_loop [13, 14] (fun f i => ∃ k : Nat, k ≤ l.length ∧ i = .int .i64 k ∧ f = .bool (anyB l m k)) (fun _ i => l.length - (intOf i).toNat)
      case atStart => exact ⟨0, by omega, rfl, rfl⟩
      case round =>
        obtain ⟨k, hk, rfl, rfl⟩ := hrel
        by_cases hlt : k < l.length
        · have hx : w3.cell? ⟨g, o + k, none⟩ = some (.int .i64 (l.getD k 0)) := by simpa using hcw3.out 0 k hlt
          have hge : m ≤ l.getD k 0 := HXB.out.2 k hlt
          have hst := anyB_step l m k hlt
          generalize l.getD k 0 = x at *
          have HST := Lib.hid hst
          clear hst
          cases hf : anyB l m k
          · cases hxm : (x == m)
            all_goals
              go_wp2_with fail
              go_round
              case rel => exact ⟨k + 1, by omega, by go_num, by rw [HST.out, hf, hxm]; rfl⟩
              case measure => simp [intOf]; omega
          · go_wp2_with fail
            go_round
            case rel => exact ⟨k + 1, by omega, by go_num, by rw [HST.out, hf]; rfl⟩
            case measure => simp [intOf]; omega
        · have ek : k = l.length := by omega
          have hab : anyB l m k = true := by rw [ek, ← HM.out]; exact anyB_all l h1
          clear ek
          have rm := room_most l m ar HM.out h1 h2 hrg.1 hrg.2 h3 h4
          have q1 := fun q => room_any wr.heap.size l.length l (m + ar - l.length) ar _ (HLA.out q)
          have q2 := fun q => room_any wr.heap.size l.length l (m + ar - l.length + 1) ar _ (HLA.out q)
          rw [rm.1] at q1
          rw [rm.2] at q2
          have Q1 := Lib.hid q1
          have Q2 := Lib.hid q2
          clear rm q1 q2
          go_wp2_with fail
          refine (Q1.out _).mono ?_
          rintro e w5 ⟨rfl, n6, rfl⟩
          go_wp2_with fail
          refine (Q2.out _).mono ?_
          rintro e w5 ⟨rfl, n7, rfl⟩
          go_wp2_with fail
          go_ret
          refine ⟨rfl, ?_⟩
          repeat (first | exact HB4 | refine below_drewN ?_ _)
    | succ k =>
      have hx : wr.cell? ⟨g, o + k, none⟩ = some (.int .i64 (l.getD k 0)) := (hB.cell (p := ⟨g, o + k, none⟩) hg).trans (HC.out k (by omega))
      have e1 : ((k + 1 : Nat) : Int) - 1 = (k : Int) := by omega
      rw [e1]
      clear e1
      have hlt : k < l.length := by omega
      generalize hX : l.getD k 0 = x at *
      by_cases c1 : x < 0
      · go_wp2_with fail
        go_ret
        exact ⟨rfl, hB⟩
      by_cases c2 : 1000000 < x
      · go_wp2_with fail
        go_ret
        exact ⟨rfl, hB⟩
      have c3 : 0 ≤ x := by omega
      have c4 : x ≤ 1000000 := by omega
      clear c1 c2
      have hn : (backOf l (k + 1)).length ≤ 64 := by unfold backOf; simp; omega
      have k3 : (backOf l (k + 1)).length + 1 ≤ maxLen := by unfold maxLen; omega
      have k4 : ((backOf l (k + 1)).length + 1) * 8 ≤ 140737488355328 := by omega
      go_wp2_with (at_builtin; refine wpList_append_own _ rfl _ _ 29 rfl w1.heap.size 3 i0 (.int .i64 0) 1 8 Try.underlying29 hi hz0 hz1 hz2 rfl (by decide) _ _ _ rfl (HOWN.out.alloc _) ⟨wr.heap.size, 0, none⟩ 1 1 [.int .i64 x] rfl rfl (cell_one_new _ _ _) (by simp [Value.oneCell']) k3 k4 (by simp; omega) ?_; intro v' w2 hown' hgrow _)
      have hlen : (backOf l k).length = (backOf l (k + 1)).length + 1 := by rw [backOf_step l k hlt]; simp
      have hmap : (backOf l k).map (Value.int .i64) = (backOf l (k + 1)).map (Value.int .i64) ++ [.int .i64 x] := by rw [backOf_step l k hlt, hX]; simp
      have hlt5 := HOWN.out.lt
      go_roundw
      case rel =>
        refine ⟨k, by omega, rfl, by rw [hlen, hmap]; exact hown', ?_, by have := hgrow.size; (try simp at this); omega, ?_⟩
        · exact (hB.alloc (by omega) _).grown hgrow (by first | (simp; done) | (simp; omega)) (fun q hq => by have := (hlt5 q hq).1; omega)
        · intro j hj hj2
          by_cases e : j = k
          · subst e; rw [hX]; exact ⟨c3, c4⟩
          · exact HRNG.out j (by omega) hj2
      case measure => first | (simp [intOf]; done) | (simp [intOf]; omega)

/-- The law: of every slice of numbers, whatever its header. -/
theorem roomLeast_walk (A : Option Addr) (n cap : Nat) (ar : Int) (w : World) (hn : (n : Int) ≤ 9223372036854775807)
    (h : n = 0 ∨ ∃ (g o : Nat) (l : List Int), A = some ⟨g, o, none⟩ ∧ l.length = n ∧ g < w.heap.size ∧ (∀ j, j < l.length → w.cell? ⟨g, o + j, none⟩ = some (.int .i64 (l.getD j 0))) ∧ (∀ j, j < l.length → -9223372036854775808 ≤ l.getD j 0 ∧ l.getD j 0 ≤ 9223372036854775807)) :
    Calls Try.prog 4 #[.slice A n cap, .int .i64 ar] w fun e w' => e = .returned (.bool true) ∧ Below w.heap.size w w' := by
  by_cases hq : (n : Int) < 1 ∨ 64 < (n : Int) ∨ ar < n ∨ 1000 < ar
  · exact roomLeast_out A n cap ar w hn hq
  · clear hn
    rcases h with h0 | ⟨g, o, l, rfl, rfl, hg, hc, hr⟩
    · omega
    · exact roomLeast_in g o cap l ar w (by omega) (by omega) (by omega) (by omega) hg hc hr

end Go.Proofs.Ytkjmnmcekhnkmab
