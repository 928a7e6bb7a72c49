/- Where any index stands, what any slot is for it and what is swapped in are the chapter's, as functions of numbers alone; for all int arguments. -/
import Derived.Test.YtkjmnmcekhnkmaaPSlotTellsx1
import Derived.OpenShut
namespace Go.Proofs.Ytkjmnmcekhnkmaa.Pure
open Go.RowKit Go.Proofs.Ytkjmnmcekhnkmaa.PSlotTells Go.Proofs.YtkjmnmcekhnkmaaW.PrintWords Go.Proofs.YtkjmnmcekhnkmaaW.PrintLast Go.Proofs.YtkjmnmcekhnkmaaW.PrintMore

theorem tells_wrap {a : Int} (h0 : -9223372036854775808 ≤ a) (h : a ≤ 9223372036854775807) : wrap64 a = a := by
  unfold wrap64
  omega

theorem tells_place (i l : Int) (h1 : i ≤ 9223372036854775807) :
    slot_Place.f i l = some (if i < 1 ∨ l < 1 then -1 else (i - 1) % l) ∧ capstanref23_Place.f i l = some (if i < 1 ∨ l < 1 then -1 else (i - 1) % l) := by
  unfold slot_Place.f capstanref23_Place.f
  by_cases ha : i < 1
  · simp [ha]
  · by_cases hb : l < 1
    · simp [ha, hb]
    · have hc : ¬ l = 0 := by omega
      have hw : wrap64 (i - 1) = i - 1 := tells_wrap (by omega) (by omega)
      rw [if_neg ha, if_neg hb, if_neg hc, if_neg (by omega), hw, Int.tmod_eq_emod_of_nonneg (by omega)]
      exact ⟨rfl, rfl⟩

theorem SlotTells : capstanlaw23_SlotTells.Pure := by
  intro s i l p h0 h1 h2 h3
  have b0 := bounds_i64 h0
  have b1 := bounds_i64 h1
  have b2 := bounds_i64 h2
  refine ⟨1, ?_⟩
  obtain ⟨e1, e2⟩ := tells_place i l b1.2
  unfold capstanlaw23_SlotTells.f slot_Next.f slot_Is.f capstanref23_Is.f
  simp only [Option.bind_some, if_true, e1, e2, capstanref23_Is.j0]
  by_cases ha : i < 1
  · simp [ha]
  · by_cases hb : l < 1
    · simp [ha, hb]
    · have hm := Int.emod_nonneg (i - 1) (show l ≠ 0 by omega)
      have hw : wrap64 (i - l) = i - l := tells_wrap (by omega) (by omega)
      have hmx : mx (i - l) 0 = if i - l < 0 then 0 else i - l := rfl
      have hn : ¬ (i < 1 ∨ l < 1) := by omega
      simp only [if_neg hn, hw, hmx, if_neg ha, decide_eq_true_eq, if_neg hb]
      rw [if_neg (by omega)]
      by_cases c1 : s > i
      · rw [if_pos c1, if_neg (show ¬ s = i by omega), if_pos c1]; rfl
      · rw [if_neg c1, if_neg c1]
        by_cases c2 : s = i
        · rw [if_pos c2, if_pos c2]; rfl
        · rw [if_neg c2, if_neg c2]
          by_cases c3 : i > l
          · rw [if_pos c3, if_neg (show ¬ i - l < 0 by omega), if_neg (show ¬ i ≤ l by omega)]
            by_cases c4 : s = i - l
            · rw [if_pos c4, if_pos c4]; rfl
            · rw [if_neg c4, if_neg c4]; rfl
          · rw [if_neg c3, if_pos (show i ≤ l by omega)]
            by_cases c4 : s = 0
            · rw [if_pos c4, if_pos (by split <;> omega)]; rfl
            · rw [if_neg c4, if_neg (by split <;> omega)]; rfl

end Go.Proofs.Ytkjmnmcekhnkmaa.Pure
