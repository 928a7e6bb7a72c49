/- Sums and products of pairs may be turned about and put together otherwise: the plain laws, and the law's walk over them; for all parts. -/
import Derived.Test.YtkjmnmcekhnkmaaGaussQ
namespace Go.Proofs.Ytkjmnmcekhnkmaa
open Go.RowKit

theorem addV_yes {a b c d : Int} (h1 : mayB a b = true) (h2 : mayB c d = true) (h3 : mayB (a + c) (b + d) = true) : addV a b c d = (a + c, b + d, true) := by
  unfold addV bothV; rw [if_pos ⟨h1, h2, h3⟩]
theorem addV_no {a b c d : Int} (h : ¬ (mayB a b = true ∧ mayB c d = true ∧ mayB (a + c) (b + d) = true)) : addV a b c d = (0, 0, false) := by
  unfold addV bothV; rw [if_neg h]
theorem mulQ_yes {a b c d : Int} (h1 : mayB a b = true) (h2 : mayB c d = true) (h3 : mayB (a * c - b * d) (a * d + b * c) = true) : mulV a b c d = (a * c - b * d, a * d + b * c, true) := by
  unfold mulV bothV; rw [if_pos ⟨h1, h2, h3⟩]
theorem mulQ_no {a b c d : Int} (h : ¬ (mayB a b = true ∧ mayB c d = true ∧ mayB (a * c - b * d) (a * d + b * c) = true)) : mulV a b c d = (0, 0, false) := by
  unfold mulV bothV; rw [if_neg h]
theorem subV_yes {a b c d : Int} (h1 : mayB a b = true) (h2 : mayB c d = true) (h3 : mayB (a - c) (b - d) = true) : subV a b c d = (a - c, b - d, true) := by
  unfold subV bothV; rw [if_pos ⟨h1, h2, h3⟩]

theorem addV_is {a b c d : Int} (h : (addV a b c d).2.2 = true) : mayB a b = true ∧ mayB c d = true ∧ mayB (a + c) (b + d) = true ∧ addV a b c d = (a + c, b + d, true) := by
  by_cases q : mayB a b = true ∧ mayB c d = true ∧ mayB (a + c) (b + d) = true
  · exact ⟨q.1, q.2.1, q.2.2, addV_yes q.1 q.2.1 q.2.2⟩
  · rw [addV_no q] at h; simp at h
theorem mulV_is {a b c d : Int} (h : (mulV a b c d).2.2 = true) : mayB a b = true ∧ mayB c d = true ∧ mayB (a * c - b * d) (a * d + b * c) = true ∧ mulV a b c d = (a * c - b * d, a * d + b * c, true) := by
  by_cases q : mayB a b = true ∧ mayB c d = true ∧ mayB (a * c - b * d) (a * d + b * c) = true
  · exact ⟨q.1, q.2.1, q.2.2, mulQ_yes q.1 q.2.1 q.2.2⟩
  · rw [mulQ_no q] at h; simp at h

theorem addV_comm (a b c d : Int) : addV c d a b = addV a b c d := by
  by_cases q : mayB a b = true ∧ mayB c d = true ∧ mayB (a + c) (b + d) = true
  · have h : mayB (c + a) (d + b) = true := by rw [Int.add_comm c, Int.add_comm d]; exact q.2.2
    rw [addV_yes q.1 q.2.1 q.2.2, addV_yes q.2.1 q.1 h, Int.add_comm c, Int.add_comm d]
  · rw [addV_no q, addV_no (fun h => q ⟨h.2.1, h.1, by rw [Int.add_comm a, Int.add_comm b]; exact h.2.2⟩)]
theorem mulV_comm (a b c d : Int) : mulV c d a b = mulV a b c d := by
  have e1 : c * a - d * b = a * c - b * d := by grind
  have e2 : c * b + d * a = a * d + b * c := by grind
  by_cases q : mayB a b = true ∧ mayB c d = true ∧ mayB (a * c - b * d) (a * d + b * c) = true
  · have h : mayB (c * a - d * b) (c * b + d * a) = true := by rw [e1, e2]; exact q.2.2
    rw [mulQ_yes q.1 q.2.1 q.2.2, mulQ_yes q.2.1 q.1 h, e1, e2]
  · rw [mulQ_no q, mulQ_no (fun h => q ⟨h.2.1, h.1, by rw [← e1, ← e2]; exact h.2.2⟩)]

theorem tri (p : Int × Int × Bool) : p = (p.1, p.2.1, p.2.2) := rfl

theorem gaussRing_walk (a b c d e f : Int) (w : World) :
    Calls Try.prog 9 #[.agg #[.int .i64 a, .int .i64 b], .agg #[.int .i64 c, .int .i64 d], .agg #[.int .i64 e, .int .i64 f]] w fun e w' => e = .returned (.bool true) ∧ Below w.heap.size w w' := by
  refine ring_walk a b c d e f (addV a b c d).1 (addV a b c d).2.1 (mulV a b c d).1 (mulV a b c d).2.1 _ _ _ _ _ _ _ _ _ _ _ _ _ _ _ _ _ _ _ _ (addV a b c d).2.2 (mulV a b c d).2.2 _ _ _ _ _ _ _ _ _ _ w
    (tri _) (addV_comm a b c d) (tri _) (mulV_comm a b c d) (tri _) (tri _) (tri _) (tri _) (tri _) (tri _) (tri _) (tri _) (tri _) (tri _) ?_ ?_ ?_ ?_ ?_
  · by_cases q : mayB a b = true ∧ mayB c d = true
    · exact .inl q
    · refine .inr ⟨?_, ?_⟩
      · rw [addV_no (fun h => q ⟨h.1, h.2.1⟩)]
      · rw [mulQ_no (fun h => q ⟨h.1, h.2.1⟩)]
  · intro hi
    obtain ⟨m1, m2, m3, e1⟩ := addV_is hi
    rw [e1]
    have h : mayB (a + c - c) (b + d - d) = true := by rw [Int.add_sub_cancel, Int.add_sub_cancel]; exact m1
    dsimp only
    rw [subV_yes m3 m2 h]
    exact ⟨rfl, Int.add_sub_cancel .., Int.add_sub_cancel ..⟩
  · intro hi hn ho hs
    obtain ⟨m1, m2, m3, e1⟩ := addV_is hi
    obtain ⟨n1, n2, n3, e2⟩ := addV_is hn
    rw [e1] at ho ⊢
    rw [e2] at hs ⊢
    obtain ⟨-, -, -, e3⟩ := addV_is ho
    obtain ⟨-, -, -, e4⟩ := addV_is hs
    dsimp only at e3 e4 ⊢
    rw [e3, e4]
    exact ⟨Int.add_assoc .., Int.add_assoc ..⟩
  · intro hk ht hu hv
    obtain ⟨m1, m2, m3, e1⟩ := mulV_is hk
    obtain ⟨n1, n2, n3, e2⟩ := mulV_is ht
    rw [e1] at hu ⊢
    rw [e2] at hv ⊢
    obtain ⟨-, -, -, e3⟩ := mulV_is hu
    obtain ⟨-, -, -, e4⟩ := mulV_is hv
    dsimp only at e3 e4 ⊢
    rw [e3, e4]
    constructor <;> (dsimp only; grind)
  · intro hn hk hq
    obtain ⟨n1, n2, n3, e2⟩ := addV_is hn
    obtain ⟨m1, m2, m3, e1⟩ := mulV_is hk
    obtain ⟨q1, q2, q3, e3⟩ := mulV_is hq
    rw [e1, e2, e3]
    dsimp only
    have d1 : a * (c + e) - b * (d + f) = (a * c - b * d) + (a * e - b * f) := by grind
    have d2 : a * (d + f) + b * (c + e) = (a * d + b * c) + (a * f + b * e) := by grind
    by_cases h : mayB ((a * c - b * d) + (a * e - b * f)) ((a * d + b * c) + (a * f + b * e)) = true
    · rw [mulQ_yes m1 n3 (by rw [d1, d2]; exact h), addV_yes m3 q3 h]
      exact ⟨rfl, d1, d2⟩
    · rw [mulQ_no (fun g => h (by rw [← d1, ← d2]; exact g.2.2)), addV_no (fun g => h g.2.2)]
      exact ⟨rfl, rfl, rfl⟩

end Go.Proofs.Ytkjmnmcekhnkmaa
