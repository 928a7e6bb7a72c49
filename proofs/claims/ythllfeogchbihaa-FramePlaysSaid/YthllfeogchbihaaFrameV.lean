/- FramePlays: the document's own frame: Begin, Again. -/
import Derived.Test.YthllfeogchbihaaFrameS
import Derived.Deep.Onto
namespace Go.Proofs.Ythllfeogchbihaa
open Go.RowKit
set_option linter.unusedSimpArgs false
set_option linter.unusedVariables false

theorem info66 : (Try.prog.info? 66).map (fun i => (i.zero, i.size, i.bytes)) = some (some (.agg #[.int .i64 0, .int .i64 0]), 2, 16) := by kernel_rfl
theorem two_one (a b : Int) : ∀ u ∈ [Value.int .i64 a, .int .i64 b], u.oneCell' = true := by
  intro u hu
  simp at hu
  rcases hu with rfl | rfl <;> rfl
theorem drop_take (tl : List (Int × Int)) (l : Int) {k : Nat} (hk : k < tl.length) : drop (tl.take (k + 1)) l = if tl[k].1 = l then drop (tl.take k) l else drop (tl.take k) l ++ [tl[k]] := by
  unfold drop
  rw [List.take_succ_eq_append_getElem hk, List.filter_append, List.filter_cons]
  by_cases h : tl[k].1 = l
  · have : (tl[k].1 != l) = false := by simp [h]
    rw [this, if_pos h]
    simp
  · have : (tl[k].1 != l) = true := by simp [h]
    rw [this, if_neg h]
    simp
theorem tcells {w : World} {base g n cap : Nat} {xs : List (Int × Int)} (hr : w.ownsRow base 66 2 (.slice (some ⟨g, 0, none⟩) n cap) n (tcs xs)) {i : Nat} (hi : i < xs.length) :
    w.cell? ⟨g, i * 2, none⟩ = some (.int .i64 xs[i].1) ∧ w.cell? ⟨g, i * 2 + 1, none⟩ = some (.int .i64 xs[i].2) ∧ g < w.heap.size := by
  have hl := hr.1
  rw [tcs_length] at hl
  obtain ⟨a1, a2⟩ := tcs_get xs i hi
  refine ⟨?_, ?_, (hr.lt g rfl).2⟩
  · rw [hr.cellAt _ (by omega)]; exact a1
  · rw [hr.cellAt _ (by omega)]; exact a2
section
variable {W : World} {base rf c : Nat} {la sa ta : Value} {tl : List (Int × Int)} {F : Fr}
theorem RfAt.returns (h : RfAt W base rf c la sa ta tl F) {W1 W' : World} {v : Value} {l t : Int} (hl : I64 l) (ht : I64 t) (hb : Below W.heap.size W W1) (hrow : W1.ownsRow W.heap.size 66 2 v (begL tl l t).length (tcs (begL tl l t))) (hw : W' = W1.setCell ⟨rf, 3, none⟩ v) :
    RStep W base rf (c + 1) la sa ta (begF F l t) W' := by
  have t1 : Touch (fun b => b = rf) W1 W' := by
    rw [hw]
    exact (Touch.refl (fun b => b = rf) W1).setCell _ _ (fun _ => rfl)
  have hb1 := h.b1
  have h1 := h.below hb
  have hbs := h.bs
  refine ⟨la, sa, v, begL tl l t, (Touch.of_below hb (Nat.le_refl _) _).trans (t1.mono (fun b _ e => .inl e)), { h1 with blk := ?_, rl := row_touch t1 h1.rl (fun b e e2 => ?_), rs := row_touch t1 h1.rs (fun b e e2 => ?_), rt := row_touch t1 (hrow.mono hbs) (fun b e e2 => ?_), tt := begL_tl h.tt hl ht, tc := ?_, bs := Nat.le_trans h1.bs t1.size, d2 := ?_, d3 := ?_ }, ?_⟩
  · have hb := h1.blk.set (j := 3) (u := ta) rfl v
    rw [hw]
    exact hb
  · have e2 : b = rf := e2
    have := (h1.rl.lt b e).1
    omega
  · have e2 : b = rf := e2
    have := (h1.rs.lt b e).1
    omega
  · have e2 : b = rf := e2
    have := (hrow.lt b e).1
    omega
  · have := begL_length tl l t
    have := h.tc
    omega
  · intro b e e2
    have := (hrow.lt b e2).1
    have := (h.rl.lt b e).2
    omega
  · intro b e e2
    have := (hrow.lt b e2).1
    have := (h.rs.lt b e).2
    omega
  · rintro b (e | e | e | e)
    · exact .inl (.inl e)
    · exact .inl (.inr (.inl e))
    · exact .inl (.inr (.inr (.inl e)))
    · exact .inr (hrow.lt b e).1

set_option maxRecDepth 100000 in
set_option maxHeartbeats 1000000 in
theorem rbegin_at (h : RfAt W base rf c la sa ta tl F) (l t : Int) (hl : I64 l) (ht : I64 t) (hc : c < 1000000) :
    Calls Try.prog 30 #[.pointer (some ⟨rf, 0, none⟩), .int .i64 l, .int .i64 t] W fun e W' => e = .returned (.tuple #[]) ∧ RStep W base rf (c + 1) la sa ta (begF F l t) W' := by
  obtain ⟨i66, hi, hz0, hz1, hz2⟩ := fr_parts info66
  obtain ⟨A, cap, hta⟩ := row_form h.rt
  have hc3 := h.blk.c 3 _ rfl
  have hf3 := h.blk.f 3
  have hlt := h.blk.l
  have htc := h.tc
  rw [hta] at hc3
  obtain ⟨n, hn⟩ : ∃ n, tl.length = n := ⟨_, rfl⟩
  rw [hn] at hc3 htc
  have n1 : (n : Int) ≤ 1000000 := by omega
  have HN := Lib.hid hn
  have H := Lib.hid h
  have HTA := Lib.hid hta
  have HL := Lib.hid hl
  have HT := Lib.hid ht
  clear h hta hn hl ht
  go_enter Try.func30, Try.ntmps30
  go_wp2_with fail
  go_loopw [6, 7] (fun v i wr => ∃ k : Nat, k ≤ n ∧ i = .int .i64 k ∧ Below W.heap.size W wr ∧ wr.ownsRow W.heap.size 66 2 v (drop (tl.take k) l).length (tcs (drop (tl.take k) l))) (fun _ i _ => n - (intOf i).toNat)
  case atStart => exact ⟨0, by omega, rfl, Below.refl _ _, by have e0 : drop (tl.take 0) l = [] := (by simp [drop]); rw [e0]; exact World.ownsRow_nil _ _ _ _⟩
  case round =>
    obtain ⟨k, hk, rfl, hb, hrow⟩ := hrel
    obtain ⟨A6, cap6, hv⟩ := row_form hrow
    subst hv
    obtain ⟨m, hm⟩ : ∃ m, (drop (tl.take k) l).length = m := ⟨_, rfl⟩
    have hmk : m ≤ k := by
      rw [← hm]
      unfold drop
      have := List.length_filter_le (fun p : Int × Int => p.1 != l) (tl.take k)
      have h2 : (tl.take k).length ≤ k := List.length_take_le _ _
      omega
    have HM := Lib.hid hm
    rw [hm] at hrow ⊢
    have m1 : (m : Int) ≤ (k : Int) := by omega
    have c3 := (hb.cell (p := ⟨rf, 3, none⟩) hlt).trans hc3
    have f3 := (hb.frozen (p := ⟨rf, 3, none⟩) hlt).trans hf3
    have hlt2 : rf < wr.heap.size := Nat.lt_of_lt_of_le hlt hb.size
    have HB := Lib.hid hb
    have HR := Lib.hid hrow
    clear hb hrow hm
    by_cases hlk : k < n
    · have hkl : k < tl.length := by rw [HN.out]; exact hlk
      have hrt := (H.out.below HB.out).rt
      rw [HTA.out, HN.out] at hrt
      obtain ⟨g, cp, e3, -, hgb, hgl⟩ := row_some hrt (by omega)
      injection e3 with e4 e5 e6
      subst e4
      obtain ⟨a0, a1, ag⟩ := tcells hrt hkl
      have hdt := drop_take tl l hkl
      have hk1 : (k : Int) < (n : Int) := by omega
      have htt := H.out.tt.2 _ (List.getElem_mem hkl)
      have HDT := Lib.hid hdt
      clear hrt hdt e5 e6 htt
      obtain ⟨p, hp⟩ : ∃ p, tl[k] = p := ⟨_, rfl⟩
      rw [hp] at a0 a1 HDT
      obtain ⟨p0, p1⟩ := p
      dsimp only at a0 a1
      by_cases he : p0 = l
      · have t5 : (p0 != l) = false := by simp [he]
        have HE := Lib.hid he
        clear he hp
        go_wp2_with fail
        go_roundw
        case rel =>
          refine ⟨k + 1, by omega, by go_num, HB.out, ?_⟩
          have e7 := HDT.out
          rw [if_pos HE.out] at e7
          rw [e7, HM.out]
          exact HR.out
        case measure => simp [intOf]; omega
      · have t5 : (p0 != l) = true := by simp [he]
        have HE := Lib.hid he
        have hnm : m + 1 ≤ maxLen := by unfold maxLen; omega
        have hnb : (m + 1) * 16 ≤ 140737488355328 := by omega
        have hbs := HB.out.size
        clear he hp
        go_wp2_with (first | (refine wpList_append_own_at _ rfl (.tmp 27) (.tmp 35) 52 rfl W.heap.size 66 i66 (.agg #[.int .i64 0, .int .i64 0]) 2 16 Try.underlying52 hi hz0 hz1 hz2 rfl (by decide) (.slice A6 m cap6) m (tcs (drop (tl.take k) l)) rfl (HR.out.alloc _) ⟨wr.heap.size, 0, none⟩ 1 1 [.int .i64 p0, .int .i64 p1] rfl rfl (cell_two_new _ _ _ _) (two_one _ _) hnm hnb (by simp; omega) ?_; intro v' w3 hown hgrow hnil hat; have HOWN := Lib.hid hown; have HGROW := Lib.hid hgrow; clear hown hgrow hnil hat) | fail)
        go_roundw
        case rel =>
          refine ⟨k + 1, by omega, by go_num, ?_, ?_⟩
          · refine (HB.out.alloc hbs _).grown HGROW.out (by simp; omega) (fun j hj => ?_)
            exact (HR.out.lt j hj).1
          · have e7 := HDT.out
            rw [if_neg HE.out] at e7
            rw [e7, tcs_append, List.length_append, HM.out]
            exact HOWN.out
        case measure => simp [intOf]; omega
    · have hkn : n = k := by omega
      subst hkn
      have hall : tl.take n = tl := List.take_of_length_le (by rw [HN.out]; omega)
      have HALL := Lib.hid hall
      have hbs := HB.out.size
      clear hall
      by_cases h0 : 0 < t
      · have hnm : m + 1 ≤ maxLen := by unfold maxLen; omega
        have hnb : (m + 1) * 16 ≤ 140737488355328 := by omega
        go_wp2_with (first | (refine wpList_append_own_at _ rfl (.tmp 39) (.tmp 43) 52 rfl W.heap.size 66 i66 (.agg #[.int .i64 0, .int .i64 0]) 2 16 Try.underlying52 hi hz0 hz1 hz2 rfl (by decide) (.slice A6 m cap6) m (tcs (drop (tl.take n) l)) rfl (HR.out.alloc _) ⟨wr.heap.size, 0, none⟩ 1 1 [.int .i64 l, .int .i64 t] rfl rfl (cell_two_new _ _ _ _) (two_one _ _) hnm hnb (by simp; omega) ?_; intro v' w3 hown hgrow hnil hat; obtain ⟨A9, cp9, rfl⟩ := row_form hown; have hb3 : Below W.heap.size W w3 := ((HB.out.alloc hbs (.cells #[.int .i64 l, .int .i64 t] 66)).grown hgrow (by simp; omega) (fun j hj => (HR.out.lt j hj).1)); have c3' := (hb3.cell (p := ⟨rf, 3, none⟩) hlt).trans hc3; have f3' := (hb3.frozen (p := ⟨rf, 3, none⟩) hlt).trans hf3; have hlt3 := Nat.lt_of_lt_of_le hlt hb3.size; have HOWN := Lib.hid hown; have HB3 := Lib.hid hb3; clear hown hgrow hnil hat hb3) | fail)
        go_end0
        refine ⟨rfl, H.out.returns HL.out HT.out HB3.out ?_ rfl⟩
        have e7 : begL tl l t = drop tl l ++ [(l, t)] := by unfold begL; rw [if_pos h0]
        rw [e7, tcs_append, List.length_append]
        have h8 := HOWN.out
        rw [HALL.out] at h8
        have h9 := HM.out
        rw [HALL.out] at h9
        rw [h9]
        exact h8
      · have h1 : t ≤ 0 := by omega
        go_wp2_with fail
        go_end0
        refine ⟨rfl, H.out.returns HL.out HT.out HB.out ?_ rfl⟩
        have e7 : begL tl l t = drop tl l := by unfold begL; rw [if_neg (by omega), List.append_nil]
        have h8 := HR.out
        rw [HALL.out] at h8
        have h9 := HM.out
        rw [HALL.out] at h9
        rw [e7, h9]
        exact h8

set_option maxRecDepth 100000 in
set_option maxHeartbeats 1000000 in
theorem ragain_at (h : RfAt W base rf c la sa ta tl F) (l : Int) (hl : I64 l) (hc : c < 1000000) :
    Calls Try.prog 31 #[.pointer (some ⟨rf, 0, none⟩), .int .i64 l] W fun e W' => e = .returned (.tuple #[.bool (decide (1 < F.turns l)), .bool (decide (0 < F.turns l))]) ∧ RStep W base rf (c + 1) la sa ta (agaF F l) W' := by
  obtain ⟨A, cap, hta⟩ := row_form h.rt
  have hc3 := h.blk.c 3 _ rfl
  have hlt := h.blk.l
  have htc := h.tc
  rw [hta] at hc3
  obtain ⟨n, hn⟩ : ∃ n, tl.length = n := ⟨_, rfl⟩
  rw [hn] at hc3 htc
  have n1 : (n : Int) ≤ 1000000 := by omega
  have HN := Lib.hid hn
  have H := Lib.hid h
  have HTA := Lib.hid hta
  have HL := Lib.hid hl
  clear h hta hn hl
  go_enter Try.func31, Try.ntmps31
  go_wp2_with fail
  go_loop [6] (fun i => ∃ k : Nat, k ≤ n ∧ i = .int .i64 k ∧ ∀ j (hj : j < tl.length), j < k → tl[j].1 ≠ l) (fun i => n - (intOf i).toNat)
  case atStart => exact ⟨0, by omega, rfl, fun j _ h => absurd h (by omega)⟩
  case round =>
    obtain ⟨k, hk, rfl, hs⟩ := hrel
    by_cases hlk : k < n
    · have hkl : k < tl.length := by rw [HN.out]; exact hlk
      have hrt := H.out.rt
      rw [HTA.out, HN.out] at hrt
      obtain ⟨g, cp, e3, -, hgb, hgl⟩ := row_some hrt (by omega)
      injection e3 with e4 e5 e6
      subst e4
      obtain ⟨a0, a1, ag⟩ := tcells hrt hkl
      have hk1 : (k : Int) < (n : Int) := by omega
      have htt := H.out.tt.2 _ (List.getElem_mem hkl)
      have hhit := fun he => look_hit hkl hs he
      rw [H.out.tt.1] at hhit
      have HHIT := Lib.hid hhit
      have HS := Lib.hid hs
      clear hrt e5 e6 hhit hs
      by_cases he : tl[k].1 = l
      · have hT := HHIT.out he
        have t5 : (tl[k].1 == l) = true := by simp [he]
        have HB := rbegin_at H.out l (F.turns l - 1) HL.out (by rw [hT]; exact ⟨by omega, by omega⟩) hc
        have e7 : agaF F l = begF F l (F.turns l - 1) := by unfold agaF; rw [if_neg (by rw [hT]; omega)]
        rw [← e7] at HB
        have HTL := Lib.hid hT
        rw [hT] at HB
        rw [he] at a0
        obtain ⟨p1, hp1⟩ : ∃ p1, tl[k].2 = p1 := ⟨_, rfl⟩
        rw [hp1] at a1 HB htt HTL
        have HB := Lib.hid HB
        have p1a : 1 ≤ p1 := by omega
        have p1b : p1 ≤ 9223372036854775807 := htt.2.2
        clear hT e7 he hp1 htt HHIT HS
        go_wp2_with fail
        refine HB.out.mono ?_
        rintro e w2 ⟨rfl, hst⟩
        have HST := Lib.hid hst
        clear hst HB
        go_wp2_with fail
        go_ret2
        refine ⟨?_, HST.out⟩
        rw [HTL.out, decide_eq_true (show 0 < p1 by omega)]
        rfl
      · have t5 : (tl[k].1 == l) = false := by rw [beq_eq_false_iff_ne]; exact he
        have HE := Lib.hid he
        clear he HHIT htt
        go_wp2_with fail
        go_round
        case rel =>
          refine ⟨k + 1, by omega, by go_num, fun j hj h => ?_⟩
          rcases Nat.lt_or_ge j k with h4 | h4
          · exact HS.out j hj h4
          · obtain rfl : j = k := by omega
            exact HE.out
        case measure => simp [intOf]; omega
    · have hkn : n = k := by omega
      subst hkn
      have hm := look_miss (fun j hj => hs j hj (by have := HN.out; omega))
      rw [H.out.tt.1] at hm
      have e7 : agaF F l = F := by unfold agaF; rw [if_pos hm]
      have HTL := Lib.hid hm
      have HE7 := Lib.hid e7
      have hst : RStep W base rf (c + 1) la sa ta F W := ⟨la, sa, ta, tl, Touch.refl _ _, { H.out with tc := by have := H.out.tc; omega }, fun b e => .inl e⟩
      have HST := Lib.hid hst
      clear hm e7 hst hs
      go_wp2_with fail
      go_ret2
      rw [HTL.out, HE7.out]
      exact ⟨rfl, HST.out⟩
end
end Go.Proofs.Ythllfeogchbihaa
