/- RoomOver's walk. -/
import Derived.Test.YtkjmnmcekhnkmabRoomV
import Derived.OpenShut
import Derived.StillTailTactics
namespace Go.Proofs.Ytkjmnmcekhnkmab
open Go.RowKit
set_option linter.unusedSimpArgs false
set_option linter.unusedVariables false

theorem info3o : (Try.prog.info? 3).map (fun i => (i.zero, i.size, i.bytes)) = some (some (.int .i64 0), 1, 8) := by kernel_rfl
theorem info51 : (Try.prog.info? 51).map (fun i => (i.zero, i.size, i.bytes)) = some (some (.agg #[.int .i64 0, .int .i64 0, .pointer none]), 3, 24) := by kernel_rfl

theorem ov_parts {i? : Option TypeInfo} {z : Value} {s b : Nat} (h : i?.map (fun i => (i.zero, i.size, i.bytes)) = some (some z, s, b)) : ∃ i, i? = some i ∧ i.zero = some z ∧ i.size = s ∧ i.bytes = b := by
  cases i? with
  | none => cases h
  | some i => simp at h; exact ⟨i, rfl, h⟩

set_option maxRecDepth 100000 in
set_option maxHeartbeats 4000000 in
theorem over_out (n every : Int) (A : Option Addr) (m cap : Nat) (w : World) (h : n < 1 ∨ 6 < n ∨ every < 1 ∨ 3 < every ∨ 400 < m) :
    Calls Try.prog 6 #[.int .i64 n, .int .i64 every, .slice A m cap] w fun e w' => e = .returned (.bool true) ∧ Below w.heap.size w w' := by
  by_cases h1 : n < 1
  · clear h
    go_enter Try.func6, Try.ntmps6
    go_wp2_with (go_at_call 14; refine (awake24_any _).mono ?_; rintro e w' ⟨rfl, hb⟩)
    go_ret
    exact ⟨rfl, hb⟩
  by_cases h2 : 6 < n
  · clear h
    go_enter Try.func6, Try.ntmps6
    go_wp2_with (go_at_call 14; refine (awake24_any _).mono ?_; rintro e w' ⟨rfl, hb⟩)
    go_ret
    exact ⟨rfl, hb⟩
  by_cases h3 : every < 1
  · clear h
    go_enter Try.func6, Try.ntmps6
    go_wp2_with (go_at_call 14; refine (awake24_any _).mono ?_; rintro e w' ⟨rfl, hb⟩)
    go_ret
    exact ⟨rfl, hb⟩
  by_cases h4 : 3 < every
  · clear h
    go_enter Try.func6, Try.ntmps6
    go_wp2_with (go_at_call 14; refine (awake24_any _).mono ?_; rintro e w' ⟨rfl, hb⟩)
    go_ret
    exact ⟨rfl, hb⟩
  have h5 : (400 : Int) < (m : Int) := by omega
  clear h
  go_enter Try.func6, Try.ntmps6
  go_wp2_with (go_at_call 14; refine (awake24_any _).mono ?_; rintro e w' ⟨rfl, hb⟩)
  go_ret
  exact ⟨rfl, hb⟩


theorem made_three (n : Nat) (j q : Nat) (hj : j < n) (hq : q < 3) (z : Array Value) (hz : z.size = 3) : (madeCells z (n * 3)).toList[j * 3 + q]? = some (z[q]!) := by
  unfold madeCells
  rw [hz]
  have h1 : j * 3 + q < n * 3 := by omega
  have h2 : (j * 3 + q) % 3 = q := by omega
  simp [h1, h2]

theorem made_one (n : Nat) (j : Nat) (hj : j < n) (z : Array Value) (hz : z.size = 1) : (madeCells z (n * 1)).toList[j]? = some (z[0]!) := by
  unfold madeCells
  rw [hz]
  simp [hj, Nat.mod_one]

/-- The picks' cells. -/
def PicksAt (w : World) (A : Option Addr) (m : Nat) : Prop :=
  ∀ i, i < m → ∃ g o P b, A = some ⟨g, o, none⟩ ∧ g < w.heap.size ∧ 0 ≤ P ∧ P ≤ 255 ∧ w.cell? ⟨g, o + i * 2, none⟩ = some (.int .u8 P) ∧ w.cell? ⟨g, o + i * 2 + 1, none⟩ = some (.bool b)

set_option maxRecDepth 100000 in
set_option maxHeartbeats 4000000 in
theorem over_in (n : Nat) (every : Int) (A : Option Addr) (m cap : Nat) (w : World) (n1 : 1 ≤ n) (n2 : n ≤ 6) (e1 : 1 ≤ every) (e2 : every ≤ 3) (hm : m ≤ 400) (hp : PicksAt w A m) :
    Calls Try.prog 6 #[.int .i64 n, .int .i64 every, .slice A m cap] w fun e w' => e = .returned (.bool true) ∧ Below w.heap.size w w' := by
  obtain ⟨i3, hi3, hz3, hs3, hy3⟩ := ov_parts info3o
  obtain ⟨i5, hi5, hz5, hs5, hy5⟩ := ov_parts info51
  have n3 : (1 : Int) ≤ (n : Int) := by omega
  have n4 : (n : Int) ≤ 6 := by omega
  have m1 : (m : Int) ≤ 400 := by omega
  have hb3 : i3.bytes * n ≤ 281474976710656 := by rw [hy3]; omega
  have hb5 : i5.bytes * n ≤ 281474976710656 := by rw [hy5]; omega
  have hbn : n ≤ maxLen := by unfold maxLen; omega
  have HP := Lib.hid hp
  clear hp
  go_enter Try.func6, Try.ntmps6
  go_wp2_with (first | (go_at_call 14; refine (awake24_any _).mono ?_; rintro e w1 ⟨rfl, hb⟩; have hs1 := hb.size) | (refine wpList_make_full _ rfl _ _ 46 rfl w1.heap.size 51 i5 (.agg #[.int .i64 0, .int .i64 0, .pointer none]) 3 Try.underlying46 hi5 hz5 hs5 .i64 .i64 (n : Int) (n : Int) n rfl rfl rfl rfl hb5 hbn (Nat.le_refl _) ?_; intro w2 hown5 hgrow5; have hs2 := hgrow5.size) | (refine wpList_make_full _ rfl _ _ 29 rfl w2.heap.size 3 i3 (.int .i64 0) 1 Try.underlying29 hi3 hz3 hs3 .i64 .i64 (n : Int) (n : Int) n rfl rfl rfl rfl hb3 hbn (Nat.le_refl _) ?_; intro w3 hown3 hgrow3) | fail)
  have hat : OverAt w3 w.heap.size w1.heap.size w2.heap.size n (List.replicate n 0) (List.replicate n ⟨0, 0, []⟩) (fun _ => 0) := by
    have hlt := hown5.lt _ rfl
    have hlt3 := hown3.lt _ rfl
    have hB3 : Below w2.heap.size w2 w3 := (Below.refl w2.heap.size w2).grown hgrow3 (Nat.le_refl _) (fun k hk => by cases hk)
    have hc : ∀ o, w3.cell? ⟨w1.heap.size, o, none⟩ = w2.cell? ⟨w1.heap.size, o, none⟩ := fun o => hB3.cell (p := ⟨w1.heap.size, o, none⟩) hlt.2
    refine ⟨by simp, by simp, fun j u hu => ?_, fun j hj => ?_, fun o => (hB3.frozen (p := ⟨w1.heap.size, o, none⟩) hlt.2).trans (hown5.frozenAt _), fun o => hown3.frozenAt _, fun j u hu hd => ?_, fun i j u v hu hv hd => ?_, by omega, by omega, by omega, by omega, hlt3.2⟩
    · rw [List.getElem?_replicate] at hu
      split at hu
      · rename_i hj
        obtain rfl := Option.some.inj hu
        have c : ∀ q, q < 3 → w3.cell? ⟨w1.heap.size, j * 3 + q, none⟩ = some (#[Value.int .i64 0, .int .i64 0, .pointer none][q]!) := by
          intro q hq
          rw [hc, hown5.cellAt _ (by omega)]
          exact made_three n j q hj hq _ rfl
        exact ⟨c 0 (by omega), c 1 (by omega), _, c 2 (by omega), fun e => by cases e⟩
      · cases hu
    · rw [hown3.cellAt _ (by omega)]
      have e : (List.replicate n (0 : Int)).getD j 0 = 0 := by
        rw [List.getD_eq_getElem?_getD, List.getElem?_replicate]
        split <;> rfl
      rw [e]
      exact made_one n j hj _ rfl
    · rw [List.getElem?_replicate] at hu
      split at hu
      · obtain rfl := Option.some.inj hu; cases hd
      · cases hu
    · rw [List.getElem?_replicate] at hu
      split at hu
      · obtain rfl := Option.some.inj hu; cases hd
      · cases hu
  have hlt5 := hown5.lt _ rfl
  have hB : Below w.heap.size w w3 := (hb.grown hgrow5 (by omega) (fun k hk => by cases hk)).grown hgrow3 (by omega) (fun k hk => by cases hk)
  have HAT := Lib.hid hat
  generalize w1.heap.size = gu at *
  generalize w2.heap.size = gp at *
  clear hown5 hown3 hgrow5 hgrow3 hat
  have ne0 : ¬ (n : Int) = 0 := by omega
  have ne1 : ((n : Int) == 0) = false := by rw [beq_eq_false_iff_ne]; exact ne0
  clear hi3 hz3 hs3 hy3 hi5 hz5 hs5 hy5 hb3 hb5 hbn hb
  go_loopw [10, 11] (fun lg i wr => ∃ (k : Nat) (log : Int) (pub : List Int) (us : List Us) (gs : Nat → Nat), k ≤ m ∧ log ≤ k ∧ lg = .int .i64 log ∧ i = .int .i64 k ∧ OverInv n (2 * every + 2 * n) log pub us ∧ OverAt wr w.heap.size gu gp n pub us gs ∧ Below w.heap.size w wr) (fun _ i _ => m - (intOf i).toNat)
  case atStart => exact ⟨0, 0, _, _, _, by omega, by omega, rfl, rfl, OverInv.zero n _ (by omega), HAT.out, hB⟩
  case round =>
    obtain ⟨k, log, pub, us, gs, hk, hlog, rfl, rfl, hinv, hat, hBr⟩ := hrel
    by_cases hlt : k < m
    · obtain ⟨ga, oa, P, b, rfl, hga, P0, P1, hcP, hcb⟩ := HP.out k hlt
      have hcP' : wr.cell? ⟨ga, oa + k * 2, none⟩ = some (.int .u8 P) := (hBr.cell (p := ⟨ga, oa + k * 2, none⟩) hga).trans hcP
      have hcb' : wr.cell? ⟨ga, oa + k * 2 + 1, none⟩ = some (.bool b) := (hBr.cell (p := ⟨ga, oa + k * 2 + 1, none⟩) hga).trans hcb
      clear hcP hcb
      have hp0 := Int.emod_nonneg P (show (n : Int) ≠ 0 by omega)
      have hp1 := Int.emod_lt_of_pos P (show (0 : Int) < n by omega)
      obtain ⟨p, hp⟩ := Int.eq_ofNat_of_zero_le hp0
      have hrem : P.tmod n = (p : Int) := by rw [Int.tmod_eq_emod_of_nonneg P0]; exact hp
      have hpn : p < n := by omega
      have hlu := hat.lu
      obtain ⟨u, hu⟩ : ∃ u, us[p]? = some u := ⟨_, List.getElem?_eq_getElem (by omega)⟩
      obtain ⟨a0, a1, v2, a2, a3⟩ := hat.au p u hu
      have HINV := Lib.hid hinv
      have HATR := Lib.hid hat
      clear hinv hat hlu
      rcases HINV.out.u0 p u hu with c | ⟨c, c1, c2, c3, c4⟩ | ⟨c, c1, c2, c3⟩
      · rw [c] at a1
        have a1' : wr.cell? ⟨gu, p * 3 + 1, none⟩ = some (.int .i64 0) := a1
        have f0 := HATR.out.fu (p * 3)
        have f1 := HATR.out.fu (p * 3 + 1)
        have f2 := HATR.out.fu (p * 3 + 2)
        have f3 := HATR.out.fp p
        have b0 := HATR.out.ap p hpn
        have hne := HATR.out.ne
        have hne' : ¬ gp = gu := fun e => hne e.symm
        have na : ¬ ga = gu := by omega
        have na' : ¬ gu = ga := by omega
        have nb : ¬ ga = gp := by omega
        have nb' : ¬ gp = ga := by omega
        clear a1 a3
        cases b
        · go_wp2_with fail
          have hat0 := HATR.out.putPos hu (by omega) log u.rd
          have hu1 : (us.set p ⟨log, u.does, u.rd⟩)[p]? = some ⟨log, u.does, u.rd⟩ := by
            rw [List.getElem?_set_self (by have := HATR.out.lu; omega)]
          have hgsb : ∀ (j : Nat) (x : Us), (us.set p ⟨log, u.does, u.rd⟩)[j]? = some x → x.does = 1 → gs j < wr.heap.size := by
            intro j x hx hdx
            rcases at_set hx with ⟨-, rfl⟩ | ⟨-, hx⟩
            · exact absurd hdx (by show u.does ≠ 1; omega)
            · exact (HATR.out.lk j x hx hdx).2.2.2.2
          have hBg : gu < wr.heap.size ∧ gp < wr.heap.size := ⟨HATR.out.su, HATR.out.sp⟩
          have hat1 := hat0
          have hB1 : Below w.heap.size w (wr.setCell ⟨gu, p * 3, none⟩ (.int .i64 log)) := hBr.setCell (by have := HATR.out.bu; exact this) _
          have hs1 : (wr.setCell ⟨gu, p * 3, none⟩ (.int .i64 log)).heap.size = wr.heap.size := by simp
          have hpub := HINV.out
          generalize wr.setCell ⟨gu, p * 3, none⟩ (.int .i64 log) = W1 at *
          refine (new_yes n W1 n1 (by omega)).mono ?_
          rintro e W2 ⟨rfl, hL, hB2, hs2⟩
          have hat2 := hat1.below hB2
          obtain ⟨a0, a1, x2, a2, -⟩ := hat2.au p _ hu1
          have f1 := hat2.fu (p * 3 + 1)
          have f2 := hat2.fu (p * 3 + 2)
          have hat3 := hat2.begun hu1 (by show u.does ≠ 1; omega) W1.heap.size hL (by omega) (by omega) (by have := hBr.size; omega) (by omega) (fun j x hx hdx => by have := hgsb j x hx hdx; omega)
          rw [List.set_set] at hat3
          have hinv3 := hpub.start hu c
          have hB3 : Below w.heap.size w W2 := below_after hB1 hB2
          have FIN : Hid (OverInv n (2 * every + 2 * n) log pub (us.set p ⟨log, 1, []⟩) ∧
            OverAt ((W2.setCell ⟨gu, p * 3 + 2, none⟩ (.pointer (some ⟨W1.heap.size, 0, none⟩))).setCell ⟨gu, p * 3 + 1, none⟩ (.int .i64 1)) w.heap.size gu gp n pub (us.set p ⟨log, 1, []⟩) (fun j => if j = p then W1.heap.size else gs j) ∧
            Below w.heap.size w ((W2.setCell ⟨gu, p * 3 + 2, none⟩ (.pointer (some ⟨W1.heap.size, 0, none⟩))).setCell ⟨gu, p * 3 + 1, none⟩ (.int .i64 1))) :=
            Lib.hid ⟨hinv3, hat3, (hB3.setCell (by have := HATR.out.bu; exact this) _).setCell (by have := HATR.out.bu; exact this) _⟩
          clear hat0 hat1 hat2 hat3 hinv3 hL hpub hB2 hB3 hs2 hs1 hu1 hgsb
          go_wp2_with fail
          refine ⟨⟨k + 1, log, _, _, _, by omega, by omega, rfl, by go_num, FIN.out.1, FIN.out.2.1, FIN.out.2.2⟩, by simp [intOf]; omega⟩
        · go_wp2_with fail
          have hat0 := HATR.out.putPos hu (by omega) log u.rd
          have hu1 : (us.set p ⟨log, u.does, u.rd⟩)[p]? = some ⟨log, u.does, u.rd⟩ := by
            rw [List.getElem?_set_self (by have := HATR.out.lu; omega)]
          have hgsb : ∀ (j : Nat) (x : Us), (us.set p ⟨log, u.does, u.rd⟩)[j]? = some x → x.does = 1 → gs j < wr.heap.size := by
            intro j x hx hdx
            rcases at_set hx with ⟨-, rfl⟩ | ⟨-, hx⟩
            · exact absurd hdx (by show u.does ≠ 1; omega)
            · exact (HATR.out.lk j x hx hdx).2.2.2.2
          have hBg : gu < wr.heap.size ∧ gp < wr.heap.size := ⟨HATR.out.su, HATR.out.sp⟩
          have hat1 := hat0.putPub hpn log
          have hB1 : Below w.heap.size w ((wr.setCell ⟨gu, p * 3, none⟩ (.int .i64 log)).setCell ⟨gp, p, none⟩ (.int .i64 log)) := (hBr.setCell (by have := HATR.out.bu; exact this) _).setCell (by have := HATR.out.bp; exact this) _
          have hs1 : ((wr.setCell ⟨gu, p * 3, none⟩ (.int .i64 log)).setCell ⟨gp, p, none⟩ (.int .i64 log)).heap.size = wr.heap.size := by simp
          have hpub := HINV.out.publish hpn
          generalize (wr.setCell ⟨gu, p * 3, none⟩ (.int .i64 log)).setCell ⟨gp, p, none⟩ (.int .i64 log) = W1 at *
          refine (new_yes n W1 n1 (by omega)).mono ?_
          rintro e W2 ⟨rfl, hL, hB2, hs2⟩
          have hat2 := hat1.below hB2
          obtain ⟨a0, a1, x2, a2, -⟩ := hat2.au p _ hu1
          have f1 := hat2.fu (p * 3 + 1)
          have f2 := hat2.fu (p * 3 + 2)
          have hat3 := hat2.begun hu1 (by show u.does ≠ 1; omega) W1.heap.size hL (by omega) (by omega) (by have := hBr.size; omega) (by omega) (fun j x hx hdx => by have := hgsb j x hx hdx; omega)
          rw [List.set_set] at hat3
          have hinv3 := hpub.start hu c
          have hB3 : Below w.heap.size w W2 := below_after hB1 hB2
          have FIN : Hid (OverInv n (2 * every + 2 * n) log (pub.set p log) (us.set p ⟨log, 1, []⟩) ∧
            OverAt ((W2.setCell ⟨gu, p * 3 + 2, none⟩ (.pointer (some ⟨W1.heap.size, 0, none⟩))).setCell ⟨gu, p * 3 + 1, none⟩ (.int .i64 1)) w.heap.size gu gp n (pub.set p log) (us.set p ⟨log, 1, []⟩) (fun j => if j = p then W1.heap.size else gs j) ∧
            Below w.heap.size w ((W2.setCell ⟨gu, p * 3 + 2, none⟩ (.pointer (some ⟨W1.heap.size, 0, none⟩))).setCell ⟨gu, p * 3 + 1, none⟩ (.int .i64 1))) :=
            Lib.hid ⟨hinv3, hat3, (hB3.setCell (by have := HATR.out.bu; exact this) _).setCell (by have := HATR.out.bu; exact this) _⟩
          clear hat0 hat1 hat2 hat3 hinv3 hL hpub hB2 hB3 hs2 hs1 hu1 hgsb
          go_wp2_with fail
          refine ⟨⟨k + 1, log, _, _, _, by omega, by omega, rfl, by go_num, FIN.out.1, FIN.out.2.1, FIN.out.2.2⟩, by simp [intOf]; omega⟩
      · rw [c] at a1
        have a1' : wr.cell? ⟨gu, p * 3 + 1, none⟩ = some (.int .i64 1) := a1
        obtain rfl := a3 c
        obtain ⟨hlk, hk1, hk2, hk3, hk4⟩ := HATR.out.lk p u hu c
        have f1 := HATR.out.fu (p * 3 + 1)
        clear a1 a3
        by_cases hq : u.rd.length = n
        · have hnx := next_any _ _ _ _ hlk
          rw [if_pos hq, decide_eq_true hq] at hnx
          have HNX := Lib.hid hnx
          have HQ := Lib.hid hq
          clear hnx hlk hq
          go_wp2_with fail
          refine HNX.out.mono ?_
          rintro e W1 ⟨rfl, j1, hw1⟩
          have hat1 := HATR.out.drewN j1
          have hB1 : Below w.heap.size w (wr.drewN j1) := below_drewN hBr _
          rw [← hw1] at hat1 hB1
          obtain ⟨b0, b1, v3, b2, b3⟩ := hat1.au p u hu
          obtain rfl := b3 c
          have b1' : W1.cell? ⟨gu, p * 3 + 1, none⟩ = some (.int .i64 1) := by rw [b1, c]; rfl
          have f2 := hat1.fu (p * 3 + 1)
          have hat2 := hat1.putDoes hu 0 (by omega) []
          have hB2 : Below w.heap.size w (W1.setCell ⟨gu, p * 3 + 1, none⟩ (.int .i64 0)) := hB1.setCell (by have := HATR.out.bu; exact this) _
          have hlk2 : LookAt (W1.setCell ⟨gu, p * 3 + 1, none⟩ (.int .i64 0)) (gs p) n u.rd :=
            (hat1.lk p u hu c).1.same (fun q => World.cell?_setCell_other _ _ _ _ (by intro e'; injection e' with e1; omega)) (fun q => by rw [World.frozen?_setCell])
          have g0 : (W1.setCell ⟨gu, p * 3 + 1, none⟩ (.int .i64 0)).cell? ⟨gu, p * 3, none⟩ = some (.int .i64 u.pos) := (World.cell?_setCell_other _ _ _ _ (by intro e'; injection e' with e1 e2; omega)).trans b0
          have g2 : (W1.setCell ⟨gu, p * 3 + 1, none⟩ (.int .i64 0)).cell? ⟨gu, p * 3 + 2, none⟩ = some (.pointer (some ⟨gs p, 0, none⟩)) := (World.cell?_setCell_other _ _ _ _ (by intro e'; injection e' with e1 e2; omega)).trans b2
          have G0 := Lib.hid g0
          have G2 := Lib.hid g2
          have HLK : Hid (∀ q, LookAt ((W1.setCell ⟨gu, p * 3 + 1, none⟩ (.int .i64 0)).drewN q) (gs p) n u.rd) := Lib.hid (fun q => hlk2.drewN q)
          have HAT2 := Lib.hid hat2
          clear hat1 hat2 hw1 hlk2 b0 b1 b2 b3 g0 g2 hB1 a0 a1' a2 f1
          obtain ⟨rb, hrb⟩ : ∃ rb, roomB n u.rd u.pos (2 * every + 2 * n) = rb := ⟨_, rfl⟩
          have hroom : ∀ q, Calls Try.prog 17 #[.pointer (some ⟨gs p, 0, none⟩), .int .i64 u.pos, .int .i64 (2 * every + 2 * n)] ((W1.setCell ⟨gu, p * 3 + 1, none⟩ (.int .i64 0)).drewN q) fun e w' => e = .returned (.bool rb) ∧ ∃ k, w' = ((W1.setCell ⟨gu, p * 3 + 1, none⟩ (.int .i64 0)).drewN q).drewN k :=
            fun q => by rw [← hrb]; exact room_any _ _ _ _ _ _ (HLK.out q)
          have HROOM := Lib.hid hroom
          have HRB := Lib.hid hrb
          clear hroom hrb
          go_wp2_with fail
          generalize W1.setCell ⟨gu, p * 3 + 1, none⟩ (.int .i64 0) = W2 at *
          have g0 := G0.out
          have g2 := G2.out
          have f3 := HAT2.out.fu (p * 3 + 1)
          have g1 : ∃ v, W2.cell? ⟨gu, p * 3 + 1, none⟩ = some v := by
            obtain ⟨-, t, -⟩ := HAT2.out.au p ⟨u.pos, 0, []⟩ (by rw [List.getElem?_set_self (by have := HATR.out.lu; omega)])
            exact ⟨_, t⟩
          obtain ⟨v4, g1⟩ := g1
          have hset : (us.set p ⟨u.pos, 0, []⟩)[p]? = some ⟨u.pos, 0, []⟩ := by rw [List.getElem?_set_self (by have := HATR.out.lu; omega)]
          have HSET := Lib.hid hset
          clear hset f2 HLK
          cases rb
          · have FIN : Hid (∀ q, OverInv n (2 * every + 2 * n) log pub (us.set p ⟨u.pos, 0, []⟩) ∧ OverAt (W2.drewN q) w.heap.size gu gp n pub (us.set p ⟨u.pos, 0, []⟩) gs ∧ Below w.heap.size w (W2.drewN q)) :=
              Lib.hid (fun q => ⟨HINV.out.no hu _ _, HAT2.out.drewN q, below_drewN hB2 _⟩)
            go_quiet ((go_at_call 17; exact Calls.quiet_of (HROOM.out _)))
            go_wp2_with fail
            refine ⟨⟨k + 1, log, _, _, _, by omega, by omega, rfl, by go_num, (FIN.out nq).1, (FIN.out nq).2.1, (FIN.out nq).2.2⟩, by simp [intOf]; omega⟩
          · have hyes := HINV.out.yes hu c HQ.out (by have := HRB.out; unfold roomB at this; simp at this; omega) []
            have FIN : Hid (∀ q, OverInv n (2 * every + 2 * n) log pub (us.set p ⟨u.pos, 2, []⟩) ∧ OverAt ((W2.drewN q).setCell ⟨gu, p * 3 + 1, none⟩ (.int .i64 2)) w.heap.size gu gp n pub (us.set p ⟨u.pos, 2, []⟩) gs ∧ Below w.heap.size w ((W2.drewN q).setCell ⟨gu, p * 3 + 1, none⟩ (.int .i64 2))) := by
              apply Lib.hid
              intro q
              refine ⟨hyes, ?_, (below_drewN hB2 _).setCell (by have := HATR.out.bu; exact this) _⟩
              have := (HAT2.out.drewN q).putDoes HSET.out 2 (by omega) []
              rw [List.set_set] at this
              exact this
            clear hyes
            go_quiet ((go_at_call 17; exact Calls.quiet_of (HROOM.out _)))
            go_wp2_with fail
            refine ⟨⟨k + 1, log, _, _, _, by omega, by omega, rfl, by go_num, (FIN.out nq).1, (FIN.out nq).2.1, (FIN.out nq).2.2⟩, by simp [intOf]; omega⟩
        · have hnx := next_any _ _ _ _ hlk
          rw [if_neg hq, decide_eq_false hq] at hnx
          have HNX := Lib.hid hnx
          have hqn : u.rd.length < n := by omega
          have d1 : decide ((u.rd.length : Int) < 0) = false := by simp
          have d2 : decide ((u.rd.length : Int) ≥ n) = false := by simp; omega
          have d3 : decide (n ≤ u.rd.length) = false := by simp; omega
          have d5 : (0 : Int) ≤ u.rd.length := by omega
          have d6 : (u.rd.length : Int) < n := by omega
          have HQ : Hid (u.rd.length ≠ n) := Lib.hid hq
          clear hnx hlk hq
          go_wp2_with fail
          refine HNX.out.mono ?_
          rintro e W1 ⟨rfl, j1, hw1⟩
          have hat1 := HATR.out.drewN j1
          have hB1 : Below w.heap.size w (wr.drewN j1) := below_drewN hBr _
          rw [← hw1] at hat1 hB1
          have hatd := hat1.drewN 1
          have HLD : Hid (LookAt W1.drew (gs p) n u.rd) := Lib.hid (hatd.lk p u hu c).1
          have HAT1 := Lib.hid hat1
          have x2 : W1.cell? ⟨gu, p * 3 + 2, none⟩ = some (.pointer (some ⟨gs p, 0, none⟩)) := by rw [hw1]; simpa using a2
          have x3 : W1.cell? ⟨gp, u.rd.length, none⟩ = some (.int .i64 (pub.getD u.rd.length 0)) := hat1.ap _ hqn
          obtain ⟨X, hX⟩ : ∃ X, pub.getD u.rd.length 0 = X := ⟨_, rfl⟩
          rw [hX] at x3
          have HX := Lib.hid hX
          clear hat1 hatd hw1 hX
          go_wp2_with fail
          go_region_held3 (fun w' => w'.cell? ⟨gu, p * 3 + 2, none⟩ = some (.pointer (some ⟨gs p, 0, none⟩)) ∧ w'.cell? ⟨gp, u.rd.length, none⟩ = some (.int .i64 X))
            ((first | (with_reducible exact hkeep) | (refine ⟨?_, ?_⟩ <;> simp [*]) | fail))
            (first
              | (go_at_call 24; refine (read_any _ _ _ _ _ HLD.out HQ.out).mono ?_; rintro e w4 ⟨rfl, nk, hw4⟩
                 have hkeep : w4.cell? ⟨gu, p * 3 + 2, none⟩ = some (.pointer (some ⟨gs p, 0, none⟩)) ∧ w4.cell? ⟨gp, u.rd.length, none⟩ = some (.int .i64 X) := by
                   rw [hw4]
                   refine ⟨?_, ?_⟩
                   · rw [World.cell?_setCell_other _ _ _ _ (by intro e'; injection e' with e1; omega), World.cell?_setCell_other _ _ _ _ (by intro e'; injection e' with e1; omega)]
                     simpa using x2
                   · rw [World.cell?_setCell_other _ _ _ _ (by intro e'; injection e' with e1; omega), World.cell?_setCell_other _ _ _ _ (by intro e'; injection e' with e1; omega)]
                     simpa using x3
                 have HW4 := Lib.hid hw4
                 clear hw4)
              | fail)
          clear x2 x3
          have FIN : Hid (OverInv n (2 * every + 2 * n) log pub (us.set p ⟨u.pos, 1, u.rd ++ [X]⟩) ∧ OverAt w4 w.heap.size gu gp n pub (us.set p ⟨u.pos, 1, u.rd ++ [X]⟩) gs ∧ Below w.heap.size w w4) := by
            apply Lib.hid
            refine ⟨?_, ?_, ?_⟩
            · rw [← HX.out]; exact HINV.out.read hu c hqn
            · rw [HW4.out]; exact (HAT1.out.drewN 1).putRead hu c HQ.out X nk
            · rw [HW4.out]; exact Below.setCell (Below.setCell (below_drewN hB1.drew _) hk3 _) hk3 _
          clear HW4 hB1
          go_wp2_with fail
          refine ⟨⟨k + 1, log, _, _, _, by omega, by omega, rfl, by go_num, FIN.out.1, FIN.out.2.1, FIN.out.2.2⟩, by simp [intOf]; omega⟩
      · rw [c] at a1
        have a1' : wr.cell? ⟨gu, p * 3 + 1, none⟩ = some (.int .i64 2) := a1
        have f1 := HATR.out.fu (p * 3 + 1)
        have hP := HINV.out.p0
        obtain ⟨had, hinv2⟩ := HINV.out.add hu c []
        have hat2 := HATR.out.putDoes hu 0 (by omega) []
        have hB2 : Below w.heap.size w (wr.setCell ⟨gu, p * 3 + 1, none⟩ (.int .i64 0)) := hBr.setCell (by have := HATR.out.bu; exact this) _
        have FIN : Hid (OverInv n (2 * every + 2 * n) (log + 1) pub (us.set p ⟨u.pos, 0, []⟩) ∧ OverAt (wr.setCell ⟨gu, p * 3 + 1, none⟩ (.int .i64 0)) w.heap.size gu gp n pub (us.set p ⟨u.pos, 0, []⟩) gs ∧ Below w.heap.size w (wr.setCell ⟨gu, p * 3 + 1, none⟩ (.int .i64 0))) := Lib.hid ⟨hinv2, hat2, hB2⟩
        have hPUB : Hid (∀ j, j < n → (wr.setCell ⟨gu, p * 3 + 1, none⟩ (.int .i64 0)).cell? ⟨gp, j, none⟩ = some (.int .i64 (pub.getD j 0)) ∧ 0 ≤ pub.getD j 0 ∧ pub.getD j 0 ≤ 400 ∧ log + 1 ≤ pub.getD j 0 + (2 * every + 2 * n)) :=
          Lib.hid (fun j hj => ⟨hat2.ap j hj, (hP j hj).1, by have := (hP j hj).2; omega, had j hj⟩)
        have hne := HATR.out.ne
        have hne' : ¬ gp = gu := fun e => hne e.symm
        have l0 := HINV.out.l0
        have y0 : wr.cell? ⟨gp, 0, none⟩ = some (.int .i64 (pub.getD 0 0)) := HATR.out.ap 0 (by omega)
        obtain ⟨y1, y2, y3, y4⟩ := hPUB.out 0 (by omega)
        have Y1 := Lib.hid y1
        clear a1 a3 hat2 hB2 hinv2 had hP y1
        go_wp2_with fail
        generalize wr.setCell ⟨gu, p * 3 + 1, none⟩ (.int .i64 0) = W2 at *
        go_loop [18, 19] (fun le q => ∃ (j : Nat) (L : Int), j ≤ n ∧ q = .int .i64 j ∧ le = .int .i64 L ∧ 0 ≤ L ∧ L ≤ 400 ∧ log + 1 ≤ L + (2 * every + 2 * n)) (fun _ q => n - (intOf q).toNat)
        case atStart => exact ⟨0, _, by omega, rfl, rfl, y2, y3, y4⟩
        case round =>
          obtain ⟨j, L, hj, rfl, rfl, L0, L1, L2⟩ := hrel
          by_cases hlt2 : j < n
          · obtain ⟨z1, z2, z3, z4⟩ := hPUB.out j hlt2
            generalize pub.getD j 0 = Z at *
            by_cases hz : Z < L
            · go_wp2_with fail
              refine ⟨⟨j + 1, Z, by omega, by go_num, rfl, z2, z3, z4⟩, by simp [intOf]; omega⟩
            · go_wp2_with fail
              refine ⟨⟨j + 1, L, by omega, by go_num, rfl, L0, L1, L2⟩, by simp [intOf]; omega⟩
          · go_wp2_with fail
            refine ⟨⟨k + 1, log + 1, _, _, _, by omega, by omega, rfl, by go_num, FIN.out.1, FIN.out.2.1, FIN.out.2.2⟩, by simp [intOf]; omega⟩
    · clear hinv hat
      go_wp2_with fail
      go_ret
      exact ⟨rfl, hBr⟩

#print axioms over_in
end Go.Proofs.Ytkjmnmcekhnkmab
