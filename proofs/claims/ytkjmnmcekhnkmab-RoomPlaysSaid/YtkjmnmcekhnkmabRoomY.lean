/- Whatever positions are read: who is next, which is the least, and whether there is room, is what the chapter says: the law's walk. -/
import Derived.Test.YtkjmnmcekhnkmabRoomP
namespace Go.Proofs.Ytkjmnmcekhnkmab
open Go.RowKit
set_option linter.unusedSimpArgs false
set_option linter.unusedVariables false

theorem plays_many (A : Option Addr) (m cap : Nat) (n pos ar : Int) (w : World) (h : 100 < (m : Int)) :
    Calls Try.prog 5 #[.int .i64 n, .slice A m cap, .int .i64 pos, .int .i64 ar] w fun e w' => e = .returned (.bool true) ∧ Below w.heap.size w w' := by
  go_enter Try.func5, Try.ntmps5
  go_wp2_with fail
  go_ret
  exact ⟨rfl, Below.refl _ _⟩

theorem plays_no (A : Option Addr) (m cap : Nat) (n pos ar : Int) (w : World) (hm : (m : Int) ≤ 100) (h : n < 1 ∨ 64 < n) :
    Calls Try.prog 5 #[.int .i64 n, .slice A m cap, .int .i64 pos, .int .i64 ar] w fun e w' => e = .returned (.bool true) ∧ Below w.heap.size w w' := by
  have H := Lib.hid h
  clear h
  go_enter Try.func5, Try.ntmps5
  go_wp2_with (first | (go_at_call 18; refine (new_no _ _ H.out).mono ?_; rintro e w' ⟨rfl, hq⟩; subst hq) | (go_at_call 19; refine (rnew_no _ _ H.out).mono ?_; rintro e w' ⟨rfl, hq⟩; subst hq) | fail)
  go_ret
  exact ⟨rfl, Below.refl _ _⟩

/-- What has been read when i rounds are over. -/
def readOf (l : List Int) (n i : Nat) : List Int := l.take (min i n)
theorem readOf_full (l : List Int) (n i : Nat) (hi : i < l.length) (h : (readOf l n i).length = n) : readOf l n (i + 1) = readOf l n i := by
  unfold readOf at *
  rw [List.length_take] at h
  rw [show min (i + 1) n = min i n by omega]
theorem readOf_more (l : List Int) (n i : Nat) (hi : i < l.length) (h : (readOf l n i).length ≠ n) : readOf l n (i + 1) = readOf l n i ++ [l.getD i 0] := by
  unfold readOf at *
  rw [List.length_take] at h
  rw [show min (i + 1) n = i + 1 by omega, show min i n = i by omega, take_snoc' l i hi]
theorem readOf_end (l : List Int) (n : Nat) : readOf l n (l.length + 1) = readOf l n l.length := by
  unfold readOf
  rcases Nat.lt_or_ge l.length n with h | h
  · rw [show min (l.length + 1) n = l.length + 1 by omega, show min l.length n = l.length by omega, List.take_of_length_le (by omega), List.take_of_length_le (by omega)]
  · rw [show min (l.length + 1) n = n by omega, show min l.length n = n by omega]

set_option maxRecDepth 100000 in
set_option maxHeartbeats 4000000 in
theorem plays_in (A : Option Addr) (l : List Int) (cap n : Nat) (pos ar : Int) (w : World) (hm : (l.length : Int) ≤ 100) (h1 : 1 ≤ n) (h2 : n ≤ 64)
    (hc : ∀ j, j < l.length → ∃ g o, A = some ⟨g, o, none⟩ ∧ g < w.heap.size ∧ w.cell? ⟨g, o + j, none⟩ = some (.int .i64 (l.getD j 0))) :
    Calls Try.prog 5 #[.int .i64 n, .slice A l.length cap, .int .i64 pos, .int .i64 ar] w fun e w' => e = .returned (.bool true) ∧ Below w.heap.size w w' := by
  have HC := Lib.hid hc
  clear hc
  go_enter Try.func5, Try.ntmps5
  go_wp2_with fail
  refine (new_yes _ _ h1 h2).mono ?_
  rintro e w1 ⟨rfl, hl, hb1, hs1⟩
  have HL1 := Lib.hid hl
  have HS1 := Lib.hid hs1
  clear hl hs1
  go_wp2_with fail
  refine (rnew_yes _ _ h1 h2).mono ?_
  rintro e w2 ⟨rfl, hr, hb2⟩
  have hgr : w.heap.size < w1.heap.size := by have := HS1.out; omega
  have hl2 := HL1.out.below hb2 hgr
  have HL2 := Lib.hid hl2
  have HR2 := Lib.hid hr
  have hB2 : Below w.heap.size w w2 := hb1.trans (hb2.mono (by omega))
  clear hl2 hr hb2 HL1 HS1
  go_wp2_with fail
  go_loopw [13] (fun i wr => ∃ k : Nat, k ≤ l.length + 1 ∧ i = .int .i64 k ∧ LookAt wr w.heap.size n (readOf l n k) ∧ RefLook wr w1.heap.size n (readOf l n k) ∧ Below w.heap.size w wr) (fun i _ => l.length + 1 - (intOf i).toNat)
  case atStart => exact ⟨0, by omega, rfl, HL2.out, HR2.out, hB2⟩
  case round =>
    obtain ⟨k, hk, rfl, hl, hr, hB⟩ := hrel
    have HL : Hid (∀ q, LookAt (wr.drewN q) w.heap.size n (readOf l n k)) := Lib.hid (fun q => hl.drewN q)
    have HR : Hid (∀ q, RefLook (wr.drewN q) w1.heap.size n (readOf l n k)) := Lib.hid (fun q => hr.drewN q)
    clear hl hr
    by_cases hle : k ≤ l.length
    · obtain ⟨x0, b0, m0, d0, r0, N1, N2, N3, N4, N5, N6⟩ : ∃ (x0 : Int) (b0 : Bool) (m0 : Int) (d0 r0 : Bool),
          Hid (∀ q, Calls Try.prog 20 #[.pointer (some ⟨w.heap.size, 0, none⟩)] (wr.drewN q) fun e w' => e = .returned (.tuple #[.int .i64 x0, .bool b0]) ∧ ∃ k, w' = (wr.drewN q).drewN k) ∧
          Hid (∀ q, Calls Try.prog 21 #[.pointer (some ⟨w1.heap.size, 0, none⟩)] (wr.drewN q) fun e w' => e = .returned (.tuple #[.int .i64 x0, .bool b0]) ∧ ∃ k, w' = (wr.drewN q).drewN k) ∧
          Hid (∀ q, Calls Try.prog 16 #[.pointer (some ⟨w.heap.size, 0, none⟩)] (wr.drewN q) fun e w' => e = .returned (.tuple #[.int .i64 m0, .bool d0]) ∧ ∃ k, w' = (wr.drewN q).drewN k) ∧
          Hid (∀ q, Calls Try.prog 22 #[.pointer (some ⟨w1.heap.size, 0, none⟩)] (wr.drewN q) fun e w' => e = .returned (.tuple #[.int .i64 m0, .bool d0]) ∧ ∃ k, w' = (wr.drewN q).drewN k) ∧
          Hid (∀ q, Calls Try.prog 17 #[.pointer (some ⟨w.heap.size, 0, none⟩), .int .i64 pos, .int .i64 ar] (wr.drewN q) fun e w' => e = .returned (.bool r0) ∧ ∃ k, w' = (wr.drewN q).drewN k) ∧
          Hid (∀ q, Calls Try.prog 23 #[.pointer (some ⟨w1.heap.size, 0, none⟩), .int .i64 pos, .int .i64 ar] (wr.drewN q) fun e w' => e = .returned (.bool r0) ∧ ∃ k, w' = (wr.drewN q).drewN k) :=
        ⟨_, _, _, _, _, Lib.hid (fun q => next_any _ _ _ _ (HL.out q)), Lib.hid (fun q => rnext_any _ _ _ _ (HR.out q)), Lib.hid (fun q => least_any _ _ _ _ (HL.out q)), Lib.hid (fun q => rleast_any _ _ _ _ (HR.out q)),
          Lib.hid (fun q => room_any _ _ _ pos ar _ (HL.out q)), Lib.hid (fun q => rroom_any _ _ _ pos ar _ (HR.out q))⟩
      go_wp2_with fail
      refine (N1.out 0).mono ?_
      rintro e w3 ⟨rfl, n1, rfl⟩
      go_wp2_with fail
      refine (N2.out _).mono ?_
      rintro e w3 ⟨rfl, n2, rfl⟩
      go_wp2_with fail
      refine (N3.out _).mono ?_
      rintro e w3 ⟨rfl, n3, rfl⟩
      go_wp2_with fail
      refine (N4.out _).mono ?_
      rintro e w3 ⟨rfl, n4, rfl⟩
      go_wp2_with fail
      refine (N5.out _).mono ?_
      rintro e w3 ⟨rfl, n5, rfl⟩
      go_wp2_with fail
      refine (N6.out _).mono ?_
      rintro e W ⟨rfl, n6, hW⟩
      have HLW : Hid (∀ q, LookAt (W.drewN q) w.heap.size n (readOf l n k)) := Lib.hid (fun q => by rw [hW]; simp only [World.drewN_drewN]; exact HL.out _)
      have HRW : Hid (∀ q, RefLook (W.drewN q) w1.heap.size n (readOf l n k)) := Lib.hid (fun q => by rw [hW]; simp only [World.drewN_drewN]; exact HR.out _)
      have hBW : Below w.heap.size w W := by rw [hW]; simp only [World.drewN_drewN]; exact below_drewN hB _
      clear N1 N2 N3 N4 N5 N6 hW HL HR
      by_cases hlt : k < l.length
      · obtain ⟨gl, ol, rfl, hgl, hcl⟩ := HC.out k hlt
        have hx : W.cell? ⟨gl, ol + k, none⟩ = some (.int .i64 (l.getD k 0)) := (hBW.cell (p := ⟨gl, ol + k, none⟩) hgl).trans hcl
        clear hcl
        generalize hX : l.getD k 0 = x at *
        have HX := Lib.hid hX
        clear hX
        by_cases hq : (readOf l n k).length = n
        · have e1 := readOf_full l n k hlt hq
          have HQ := Lib.hid hq
          have HE := Lib.hid e1
          clear hq e1
          go_wp2_with fail
          go_quiet ((first | (go_at_call 24; exact Calls.quiet_of (read_full _ _ _ _ _ (HLW.out _) HQ.out)) | (go_at_call 25; exact Calls.quiet_of (rread_full _ _ _ _ _ (HRW.out _) HQ.out)) | fail))
          go_wp2_with fail
          go_roundw
          case rel => exact ⟨k + 1, by omega, by go_num, by rw [HE.out]; exact HLW.out _, by rw [HE.out]; exact HRW.out _, below_drewN hBW _⟩
          case measure => simp [intOf]; omega
        · have e1 := readOf_more l n k hlt hq
          rw [HX.out] at e1
          have HQ : Hid ((readOf l n k).length ≠ n) := Lib.hid hq
          have HE := Lib.hid e1
          have HLD : Hid (LookAt W.drew w.heap.size n (readOf l n k)) := Lib.hid (HLW.out 1)
          have HRD : Hid (∀ q, RefLook ((W.drew).drewN q) w1.heap.size n (readOf l n k)) := Lib.hid (fun q => (HRW.out 1).drewN q)
          have key : ∀ V, Below w.heap.size w V → V.cell? ⟨gl, ol + k, none⟩ = some (.int .i64 x) ∧ Below w.heap.size w V :=
            fun V hV => ⟨(hV.cell (p := ⟨gl, ol + k, none⟩) hgl).trans ((hBW.cell (p := ⟨gl, ol + k, none⟩) hgl).symm.trans hx), hV⟩
          have KEY := Lib.hid key
          have hBD : Below w.heap.size w W.drew := hBW.drew
          clear hq e1 key
          go_wp2_with fail
          go_region_held3 (fun w' => w'.cell? ⟨gl, ol + k, none⟩ = some (.int .i64 x) ∧ Below w.heap.size w w')
            ((refine KEY.out _ ?_; first
              | (with_reducible exact hb)
              | (with_reducible exact hBD)
              | fail))
            (first
              | (go_at_call 24; refine (read_any _ _ _ _ _ HLD.out HQ.out).mono ?_; rintro e w4 ⟨rfl, nk, hw4⟩
                 have hb : Below w.heap.size w w4 := by rw [hw4]; exact Below.setCell (Below.setCell (below_drewN hBD _) (Nat.le_refl _) _) (Nat.le_refl _) _
                 have HL4 : Hid (LookAt w4 w.heap.size n (readOf l n k ++ [x])) := by apply Lib.hid; rw [hw4]; exact HLD.out.read HQ.out nk
                 have HR4 : Hid (RefLook w4 w1.heap.size n (readOf l n k)) := by apply Lib.hid; rw [hw4]; exact (HRD.out nk).other hgr
                 clear hw4)
              | (go_at_call 25; refine (rread_any _ _ _ _ _ HR4.out HQ.out).mono ?_; rintro e w5 ⟨rfl, hr5, hb5⟩
                 have HR5 : Hid (RefLook w5 w1.heap.size n (readOf l n k ++ [x])) := Lib.hid hr5
                 have HL5 : Hid (LookAt w5 w.heap.size n (readOf l n k ++ [x])) := Lib.hid (HL4.out.below hb5 hgr)
                 have hb : Below w.heap.size w w5 := hb.trans (hb5.mono (by omega))
                 clear hr5 hb5)
              | fail)
          go_wp2_with fail
          go_roundw
          case rel => exact ⟨k + 1, by omega, by go_num, by rw [HE.out]; exact HL5.out, by rw [HE.out]; exact HR5.out, hb⟩
          case measure => simp [intOf]; omega
      · go_wp2_with fail
        go_quiet (fail)
        go_wp2_with fail
        go_roundw
        case rel =>
          obtain rfl : k = l.length := by omega
          exact ⟨l.length + 1, by omega, by go_num, by rw [readOf_end]; exact HLW.out _, by rw [readOf_end]; exact HRW.out _, below_drewN hBW _⟩
        case measure => simp [intOf]; omega
    · go_wp2_with fail
      go_ret
      exact ⟨rfl, hB⟩

/-- The law: of every number, every slice of numbers, every position and arena. -/
theorem roomPlays_walk (n : Int) (A : Option Addr) (m cap : Nat) (pos ar : Int) (w : World) (hm : (m : Int) ≤ 9223372036854775807)
    (h : m = 0 ∨ ∃ (g o : Nat) (l : List Int), A = some ⟨g, o, none⟩ ∧ l.length = m ∧ g < w.heap.size ∧ (∀ j, j < l.length → w.cell? ⟨g, o + j, none⟩ = some (.int .i64 (l.getD j 0))) ∧ (∀ j, j < l.length → -9223372036854775808 ≤ l.getD j 0 ∧ l.getD j 0 ≤ 9223372036854775807)) :
    Calls Try.prog 5 #[.int .i64 n, .slice A m cap, .int .i64 pos, .int .i64 ar] w fun e w' => e = .returned (.bool true) ∧ Below w.heap.size w w' := by
  by_cases h1 : 100 < (m : Int)
  · exact plays_many A m cap n pos ar w h1
  by_cases h2 : n < 1 ∨ 64 < n
  · exact plays_no A m cap n pos ar w (by omega) h2
  clear hm
  obtain ⟨n, rfl⟩ := Int.eq_ofNat_of_zero_le (show 0 ≤ n by omega)
  rcases h with rfl | ⟨g, o, l, rfl, rfl, hg, hc, -⟩
  · exact plays_in A [] cap n pos ar w (by simp) (by omega) (by omega) (fun j hj => by simp at hj)
  · exact plays_in _ l cap n pos ar w (by omega) (by omega) (by omega) (fun j hj => ⟨g, o, rfl, hg, hc j hj⟩)

#print axioms roomPlays_walk
end Go.Proofs.Ytkjmnmcekhnkmab
