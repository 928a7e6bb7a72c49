/- MemOwn: look: all numbers that a memory holds. -/
import Derived.Test.YthllfeogchbihacMemM
import Derived.OwnWalk
import Derived.Carry
import Derived.Maps.AppendAt
namespace Go.Proofs.Ythllfeogchbihac
open Go.RowKit
set_option linter.unusedSimpArgs false
set_option linter.unusedVariables false
def pls (l : List P7) : List Int := l.flatMap (fun x => [x.s, x.pos])
def looks (M : Me) : List Int := pls M.pr ++ M.sl.map (·.i)
theorem pls_len (l : List P7) : (pls l).length = 2 * l.length := by
  unfold pls
  induction l with
  | nil => rfl
  | cons x l ih => rw [List.flatMap_cons, List.length_append, ih, List.length_cons]; simp; omega
theorem pls_take (l : List P7) {k : Nat} (hk : k < l.length) : pls (l.take (k + 1)) = pls (l.take k) ++ [(l[k]).s, (l[k]).pos] := by
  unfold pls
  rw [List.take_succ_eq_append_getElem hk, List.flatMap_append]
  rfl
theorem looks_len (M : Me) : (looks M).length = 2 * M.pr.length + M.sl.length := by
  unfold looks
  rw [List.length_append, pls_len, List.length_map]
theorem info3 : (Try.prog.info? 3).map (fun i => (i.zero, i.size, i.bytes)) = some (some (.int .i64 0), 1, 8) := by kernel_rfl
theorem cell_two_new (w : World) (x y : Value) (t : TypeId) : ∀ j u, [x, y][j]? = some u → (w.alloc (.cells #[x, y] t)).cell? ((⟨w.heap.size, 0, none⟩ : Addr).add j) = some u := by
  intro j u hj
  have h := (Blk.new w #[x, y] t).c j u hj
  have e : ((⟨w.heap.size, 0, none⟩ : Addr).add j) = ⟨w.heap.size, j, none⟩ := by simp [Addr.add]; omega
  rw [e]
  exact h
section
variable {W : World} {mg pg sg : Nat} {M : Me}
set_option maxRecDepth 100000 in
set_option maxHeartbeats 4000000 in
theorem look_at (h : MemAt W mg pg sg M) : Calls Try.prog 28 #[.pointer (some ⟨mg, 0, none⟩)] W fun e W' => ∃ v, e = .returned v ∧ Below W.heap.size W W' ∧ W'.ownsRow W.heap.size 3 1 v (looks M).length ((looks M).map (.int .i64)) := by
  obtain ⟨i3, hi, hz0, hz1, hz2⟩ := fr_parts info3
  have HM := Lib.hid h
  have n1 := h.lp
  have n2 := h.ls
  obtain ⟨np, hnp⟩ : ∃ np, M.pr.length = np := ⟨_, rfl⟩
  obtain ⟨ns, hns⟩ : ∃ ns, M.sl.length = ns := ⟨_, rfl⟩
  have HNP := Lib.hid hnp
  have HNS := Lib.hid hns
  rw [hnp] at n1
  rw [hns] at n2
  have HPR : Hid (∀ V, Below W.heap.size W V → Calls Try.prog 26 #[.pointer (some ⟨mg, 0, none⟩)] V fun e W' => e = .returned (.int .i64 np) ∧ W' = V) := Lib.hid (fun V hb => hnp ▸ procs_at (h.below hb))
  have HAR : Hid (∀ V, Below W.heap.size W V → Calls Try.prog 27 #[.pointer (some ⟨mg, 0, none⟩)] V fun e W' => e = .returned (.int .i64 ns) ∧ W' = V) := Lib.hid (fun V hb => hns ▸ arena_at (h.below hb))
  have hfd := field47
  clear h hnp hns
  go_enter Try.func28, Try.ntmps28
  go_wp2_with fail
  go_loopw [3, 4] (fun v i wr => ∃ k : Nat, k ≤ np ∧ i = .int .i64 k ∧ Below W.heap.size W wr ∧ wr.ownsRow W.heap.size 3 1 v (2 * k) ((pls (M.pr.take k)).map (.int .i64))) (fun _ i _ => np - (intOf i).toNat)
  case atStart => exact ⟨0, by omega, rfl, Below.refl _ _, World.ownsRow_nil _ _ _ _⟩
  case round =>
    obtain ⟨k, hk, rfl, hwr, hown⟩ := hrel
    have HW := Lib.hid hwr
    have HOWN := Lib.hid hown
    clear hwr hown
    go_wp2_with fail
    refine (HPR.out _ HW.out).mono ?_
    rintro e v1 ⟨rfl, rfl⟩
    by_cases hlt : k < np
    · have hkl : k < M.pr.length := by rw [HNP.out]; exact hlt
      have HT := Lib.hid (told_at (HM.out.below HW.out) (k : Int))
      have HSTEP : Hid ((pls (M.pr.take (k + 1))).map (Value.int .i64) = (pls (M.pr.take k)).map (Value.int .i64) ++ [.int .i64 (M.proc k).s, .int .i64 (M.proc k).pos]) := Lib.hid (by rw [pls_take _ hkl, List.map_append, Me.proc_yes hkl]; rfl)
      generalize M.proc (k : Int) = x at *
      unfold aagg at HT
      clear hkl
      go_wp2_with fail
      refine HT.out.mono ?_
      rintro e w4 ⟨rfl, hb4⟩
      have HB4 := Lib.hid (below_next HW.out hb4)
      have HG4 := Lib.hid ((Touch.of_below hb4 (Nat.le_refl _) (fun _ => False)).row HOWN.out (fun _ _ _ _ e => e))
      clear hb4 HT
      have HS2 : Hid (w4.heap.size < (w4.alloc (.cells #[.int .i64 x.s, .int .u8 x.k, .int .i64 x.m, .slice none 0 0, .slice none 0 0] 68)).heap.size) := Lib.hid (by simp)
      go_wp2_with (at_builtin; refine wpList_append_own _ rfl _ _ 33 rfl W.heap.size 3 i3 (.int .i64 0) 1 8 Try.underlying33 hi hz0 hz1 hz2 rfl (by decide) _ _ _ rfl ((HG4.out.alloc _).alloc _) ⟨w4.heap.size + 1, 0, none⟩ 2 2 [.int .i64 x.s, .int .i64 x.pos] rfl rfl (by have := cell_two_new (w4.alloc (.cells #[.int .i64 x.s, .int .u8 x.k, .int .i64 x.m, .slice none 0 0, .slice none 0 0] 68)) (.int .i64 x.s) (.int .i64 x.pos) 3; simpa only [World.size_alloc] using this) (by simp [Value.oneCell']) (by unfold maxLen; omega) (by omega) (by have := HB4.out.size; simp; omega) ?_; intro v' w5 hown' hgrow _)
      have HL := HOWN.out.lt
      go_roundw
      case rel =>
        refine ⟨k + 1, by omega, by go_num, ?_, by rw [HSTEP.out]; exact hown'⟩
        refine Below.grown ((HB4.out.alloc HB4.out.size _).alloc (by have := HB4.out.size; simp; omega) _) hgrow (by have := HB4.out.size; simp; omega) (fun q hq => by have := (HL q hq).1; omega)
      case measure => first | (simp [intOf]; done) | (simp [intOf]; omega)
    · obtain rfl : k = np := by omega
      have hfirst : (pls (M.pr.take k)).map (Value.int .i64) = (pls M.pr).map (Value.int .i64) ++ (M.sl.take 0).map (fun x => Value.int .i64 x.i) := by
        rw [List.take_of_length_le (by rw [HNP.out]; exact Nat.le_refl _)]; simp
      rw [hfirst] at HOWN
      clear hfirst
      go_wp2_with fail
      go_loopw [3, 7] (fun v i wr => ∃ j : Nat, j ≤ ns ∧ i = .int .i64 j ∧ Below W.heap.size W wr ∧ wr.ownsRow W.heap.size 3 1 v (2 * k + j) ((pls M.pr).map (Value.int .i64) ++ (M.sl.take j).map (fun x => Value.int .i64 x.i))) (fun _ i _ => ns - (intOf i).toNat)
      case atStart => exact ⟨0, by omega, rfl, HW.out, HOWN.out⟩
      case round =>
        obtain ⟨j, hj, rfl, hwr2, hown2⟩ := hrel
        have HW2 := Lib.hid hwr2
        have HOWN2 := Lib.hid hown2
        clear hwr2 hown2 HOWN HW
        go_wp2_with fail
        refine (HAR.out _ HW2.out).mono ?_
        rintro e v2 ⟨rfl, rfl⟩
        by_cases hlt2 : j < ns
        · have hjl : j < M.sl.length := by rw [HNS.out]; exact hlt2
          have HT := Lib.hid (held_at (HM.out.below HW2.out) (j : Int))
          have HSTEP : Hid ((pls M.pr).map (Value.int .i64) ++ (M.sl.take (j + 1)).map (fun x => Value.int .i64 x.i) = ((pls M.pr).map (Value.int .i64) ++ (M.sl.take j).map (fun x => Value.int .i64 x.i)) ++ [.int .i64 (M.slot j).i]) := Lib.hid (by rw [List.take_succ_eq_append_getElem hjl, List.map_append, Me.slot_yes hjl, List.append_assoc]; rfl)
          generalize M.slot (j : Int) = x at *
          unfold sagg at HT
          clear hjl
          go_wp2_with fail
          refine HT.out.mono ?_
          rintro e w4 ⟨rfl, hb4⟩
          have HB4 := Lib.hid (below_next HW2.out hb4)
          have HG4 := Lib.hid ((Touch.of_below hb4 (Nat.le_refl _) (fun _ => False)).row HOWN2.out (fun _ _ _ _ e => e))
          clear hb4 HT
          go_wp2_with (at_builtin; refine wpList_append_own _ rfl _ _ 33 rfl W.heap.size 3 i3 (.int .i64 0) 1 8 Try.underlying33 hi hz0 hz1 hz2 rfl (by decide) _ _ _ rfl (HG4.out.alloc _) ⟨w4.heap.size, 0, none⟩ 1 1 [.int .i64 x.i] rfl rfl (cell_one_new _ _ _) (by simp [Value.oneCell']) (by unfold maxLen; omega) (by omega) (by have := HB4.out.size; simp; omega) ?_; intro v' w5 hown' hgrow _)
          have HL := HOWN2.out.lt
          go_roundw
          case rel =>
            refine ⟨j + 1, by omega, by go_num, ?_, by rw [HSTEP.out]; exact hown'⟩
            exact Below.grown (HB4.out.alloc HB4.out.size _) hgrow (by have := HB4.out.size; simp; omega) (fun q hq => by have := (HL q hq).1; omega)
          case measure => first | (simp [intOf]; done) | (simp [intOf]; omega)
        · obtain rfl : j = ns := by omega
          have hlast : (pls M.pr).map (Value.int .i64) ++ (M.sl.take j).map (fun x => Value.int .i64 x.i) = (looks M).map (.int .i64) := by
            rw [List.take_of_length_le (by rw [HNS.out]; exact Nat.le_refl _)]
            simp [looks, Function.comp_def]
          have hll : 2 * k + j = (looks M).length := by rw [looks_len, HNP.out, HNS.out]
          rw [hlast, hll] at HOWN2
          clear hlast hll
          go_wp2_with fail
          go_ret
          exact ⟨_, rfl, HW2.out, HOWN2.out⟩
end
end Go.Proofs.Ythllfeogchbihac
