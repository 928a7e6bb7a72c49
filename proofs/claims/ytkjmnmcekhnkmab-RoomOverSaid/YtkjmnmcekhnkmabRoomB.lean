/- The statements' helper 'look' and the chapter's example on looks (awake), as contracts: for every slice of 1 to 64 numbers. -/
import Derived.Test.YtkjmnmcekhnkmabRoomA
import Derived.Deep.DeepCutAuto
namespace Go.Proofs.Ytkjmnmcekhnkmab
open Go.RowKit
set_option linter.unusedSimpArgs false
set_option linter.unusedVariables false

theorem take_snoc' (l : List Int) (k : Nat) (h : k < l.length) : l.take (k + 1) = l.take k ++ [l.getD k 0] := by
  rw [List.take_succ_eq_append_getElem h, List.getD_eq_getElem?_getD, List.getElem?_eq_getElem h]; rfl

theorem getD_is (l : List Int) (k : Nat) (h : k < l.length) : l[k] = l.getD k 0 := by
  rw [List.getD_eq_getElem?_getD, List.getElem?_eq_getElem h]; rfl

set_option maxHeartbeats 1000000 in
theorem look_any (g o cap : Nat) (l : List Int) (w : World) (h1 : 1 ≤ l.length) (h2 : l.length ≤ 64) (hg : g < w.heap.size)
    (hc : ∀ j, j < l.length → w.cell? ⟨g, o + j, none⟩ = some (.int .i64 (l.getD j 0))) :
    Calls Try.prog 15 #[.slice (some ⟨g, o, none⟩) l.length cap] w fun e w' =>
      e = .returned (.pointer (some ⟨w.heap.size, 0, none⟩)) ∧ LookAt w' w.heap.size l.length l ∧ Below w.heap.size w w' ∧ w'.heap.size = w.heap.size + 1 := by
  have HC := Lib.hid hc
  clear hc
  have h3 : (l.length : Int) ≤ 64 := by omega
  go_enter Try.func15, Try.ntmps15
  go_wp2_with fail
  refine (new_yes _ _ h1 h2).mono ?_
  rintro e w1 ⟨rfl, hL, hB, hs⟩
  have HL := Lib.hid hL
  have HS := Lib.hid hs
  clear hL hs
  go_wp2_with fail
  go_loopw [5] (fun i wr => ∃ k : Nat, k ≤ l.length ∧ i = .int .i64 k ∧ LookAt wr w.heap.size l.length (l.take k) ∧ Below w.heap.size w wr ∧ wr.heap.size = w.heap.size + 1) (fun i _ => l.length - (intOf i).toNat)
  case atStart => exact ⟨0, by omega, rfl, HL.out, hB, HS.out⟩
  case round =>
    obtain ⟨k, hk, rfl, hL, hB2, hs2⟩ := hrel
    have HL2 := Lib.hid hL
    have HS2 := Lib.hid hs2
    clear hL hs2
    by_cases hlt : k < l.length
    · have hx : wr.cell? ⟨g, o + k, none⟩ = some (.int .i64 (l.getD k 0)) := (hB2.cell (p := ⟨g, o + k, none⟩) hg).trans (HC.out k hlt)
      have hne : (l.take k).length ≠ l.length := by rw [List.length_take]; omega
      go_wp2_with fail
      refine (read_any _ _ _ _ _ HL2.out hne).mono ?_
      rintro e w3 ⟨rfl, nk, hw3⟩
      rw [getD_is l k hlt] at hw3
      have hl3 := HL2.out.read (p := l.getD k 0) hne nk
      have hB3 : Below w.heap.size w w3 := by
        rw [hw3]; exact Below.setCell (Below.setCell (below_drewN hB2 _) (Nat.le_refl _) _) (Nat.le_refl _) _
      have hs3 : w3.heap.size = w.heap.size + 1 := by rw [hw3]; simpa using HS2.out
      have HL3 : Hid (LookAt w3 w.heap.size l.length (l.take (k + 1))) := by
        apply Lib.hid; rw [take_snoc' l k hlt, hw3]
        exact hl3
      have HS3 := Lib.hid hs3
      clear hw3 hs3 hl3 hne
      go_wp2_with fail
      go_roundw
      case rel => exact ⟨k + 1, by omega, by go_num, HL3.out, hB3, HS3.out⟩
      case measure => simp [intOf]; omega
    · have hl2 := HL2.out
      rw [List.take_of_length_le (by omega)] at hl2
      have HL4 := Lib.hid hl2
      clear hl2
      go_wp2_with fail
      go_ret
      exact ⟨rfl, HL4.out, hB2, HS2.out⟩

theorem below_after {w W w1 : World} (h0 : Below w.heap.size w W) (hb : Below W.heap.size W w1) : Below w.heap.size w w1 := h0.trans (hb.mono h0.size)

theorem ex_look (w : World) : Calls Try.prog 15 #[.slice (some ⟨w.heap.size, 0, none⟩) 2 2] (w.alloc (.cells #[.int .i64 5, .int .i64 3] 3)) fun e w' =>
    e = .returned (.pointer (some ⟨w.heap.size + 1, 0, none⟩)) ∧ LookAt w' (w.heap.size + 1) 2 [5, 3] ∧ Below w.heap.size w w' := by
  refine (look_any w.heap.size 0 2 [5, 3] (w.alloc (.cells #[.int .i64 5, .int .i64 3] 3)) (by simp) (by simp) (by simp) ?_).mono ?_
  · intro j hj
    match j, hj with
    | 0, _ => simp
    | 1, _ => simp
  · rintro e w' ⟨rfl, hl, hb, hs⟩
    exact ⟨by simp, by simpa using hl, below_after (by go_grown) hb⟩

set_option maxRecDepth 100000 in
set_option maxHeartbeats 2000000 in
theorem awake24_any (w : World) : Calls Try.prog 14 #[] w fun e w' => e = .returned (.bool true) ∧ Below w.heap.size w w' := by
  have e1 : mnl [5, 3] = 3 := by decide
  have e2 : roomB 2 [5, 3] 7 6 = true := by decide
  have e3 : roomB 2 [5, 3] 8 6 = false := by decide
  go_enter Try.func14, Try.ntmps14
  go_wp2_with fail
  refine (ex_look _).mono ?_
  rintro e w1 ⟨rfl, hl, hb⟩
  have HL := Lib.hid hl
  clear hl
  have HLs : Hid (∀ k, LookAt (w1.drewN k) (w.heap.size + 1) 2 [5, 3]) := Lib.hid (fun k => HL.out.drewN k)
  go_wp2_with fail
  refine (least_any _ _ _ _ HL.out).mono ?_
  rintro e w2 ⟨rfl, n2, rfl⟩
  rw [e1]
  go_wp2_with fail
  refine (new_no 65 _ (by omega)).mono ?_
  rintro e w2 ⟨rfl, hq⟩
  subst hq
  go_wp2_with fail
  refine (room_any _ _ _ _ _ _ (HLs.out _)).mono ?_
  rw [e2]
  rintro e w2 ⟨rfl, n3, rfl⟩
  go_wp2_with fail
  refine (room_any _ _ _ _ _ _ (HLs.out _)).mono ?_
  rw [e3]
  rintro e w2 ⟨rfl, n4, rfl⟩
  go_wp2_with fail
  refine (read_full _ _ _ _ _ (HLs.out _) (by simp)).mono ?_
  rintro e w2 ⟨rfl, n5, rfl⟩
  go_wp2_with fail
  go_ret
  refine ⟨rfl, ?_⟩
  repeat (first | exact hb | refine below_drewN ?_ _)

end Go.Proofs.Ytkjmnmcekhnkmab
