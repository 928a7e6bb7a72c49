/- RoomOver's plain law: whatever n processes do, no entry's index is above the least published position and the arena. -/
import Derived.Test.YtkjmnmcekhnkmabRoomA
namespace Go.Proofs.Ytkjmnmcekhnkmab

/-- One that adds entries: where it stands, what it does, what it has read. -/
structure Us where
  pos : Int
  does : Nat
  rd : List Int

def act (x : Int) (u : Us) : Bool := decide (u.does ≠ 0 ∧ u.pos ≤ x)

/-- The n processes' law, between two turns. -/
structure OverInv (n : Nat) (ar log : Int) (pub : List Int) (us : List Us) : Prop where
  lp : pub.length = n
  lu : us.length = n
  l0 : 0 ≤ log
  p0 : ∀ j, j < n → 0 ≤ pub.getD j 0 ∧ pub.getD j 0 ≤ log
  u0 : ∀ (j : Nat) (u : Us), us[j]? = some u → u.does = 0 ∨ (u.does = 1 ∧ 0 ≤ u.pos ∧ u.pos ≤ log ∧ u.rd.length ≤ n ∧ ∀ i, i < u.rd.length → 0 ≤ u.rd.getD i 0 ∧ u.rd.getD i 0 ≤ pub.getD i 0) ∨
    (u.does = 2 ∧ 0 ≤ u.pos ∧ u.pos ≤ log ∧ ∀ i, i < n → u.pos + n ≤ pub.getD i 0 + ar)
  g0 : ∃ G : Int, G ≤ log ∧ (∀ j, j < n → G + n ≤ pub.getD j 0 + ar) ∧ ∀ x, G ≤ x → x ≤ log → log + (us.countP (act x) : Nat) ≤ x + n

theorem act_set {us : List Us} {p : Nat} {u v : Us} (h : us[p]? = some u) (x : Int) :
    (us.set p v).countP (act x) + (if act x u then 1 else 0) = us.countP (act x) + (if act x v then 1 else 0) := by
  obtain ⟨hp, e⟩ := List.getElem?_eq_some_iff.1 h
  subst e
  rw [List.countP_set hp]
  have : (if act x us[p] = true then 1 else 0) ≤ us.countP (act x) := by
    split
    · rename_i ha
      exact List.countP_pos_iff.2 ⟨_, List.getElem_mem hp, ha⟩
    · omega
  omega

theorem at_set {us : List Us} {p j : Nat} {u v : Us} (h : (us.set p v)[j]? = some u) : (j = p ∧ u = v) ∨ (j ≠ p ∧ us[j]? = some u) := by
  rw [List.getElem?_set] at h
  by_cases e : p = j
  · rw [if_pos e] at h
    split at h
    · exact .inl ⟨e.symm, (Option.some.inj h).symm⟩
    · cases h
  · rw [if_neg e] at h
    exact .inr ⟨fun e' => e e'.symm, h⟩

theorem getD_set (l : List Int) (p j : Nat) (x : Int) (h : p < l.length) : (l.set p x).getD j 0 = if j = p then x else l.getD j 0 := by
  rw [List.getD_eq_getElem?_getD, List.getElem?_set]
  by_cases e : p = j
  · rw [if_pos e, if_pos e.symm, if_pos (by omega)]; rfl
  · rw [if_neg e, if_neg (fun e' => e e'.symm), List.getD_eq_getElem?_getD]

/-- A position is published. -/
theorem OverInv.publish {n : Nat} {ar log : Int} {pub : List Int} {us : List Us} (h : OverInv n ar log pub us) {p : Nat} (hp : p < n) : OverInv n ar log (pub.set p log) us := by
  have hl := h.lp
  have up : ∀ j, j < n → pub.getD j 0 ≤ (pub.set p log).getD j 0 := by
    intro j hj
    rw [getD_set _ _ _ _ (by omega)]
    split
    · rename_i e; exact (h.p0 j hj).2
    · omega
  obtain ⟨G, g1, g2, g3⟩ := h.g0
  refine ⟨by rw [List.length_set]; exact hl, h.lu, h.l0, ?_, ?_, G, g1, fun j hj => by have := g2 j hj; have := up j hj; omega, g3⟩
  · intro j hj
    rw [getD_set _ _ _ _ (by omega)]
    have := h.p0 j hj
    have := h.l0
    split <;> omega
  · intro j u hu
    rcases h.u0 j u hu with c | ⟨c, c1, c2, c3, c4⟩ | ⟨c, c1, c2, c3⟩
    · exact .inl c
    · refine .inr (.inl ⟨c, c1, c2, c3, fun i hi => ?_⟩)
      have := c4 i hi
      have := up i (by omega)
      omega
    · refine .inr (.inr ⟨c, c1, c2, fun i hi => ?_⟩)
      have := c3 i hi
      have := up i hi
      omega

/-- A look begins. -/
theorem OverInv.start {n : Nat} {ar log : Int} {pub : List Int} {us : List Us} (h : OverInv n ar log pub us) {p : Nat} {u : Us} (hu : us[p]? = some u) (hd : u.does = 0) :
    OverInv n ar log pub (us.set p ⟨log, 1, []⟩) := by
  obtain ⟨G, g1, g2, g3⟩ := h.g0
  have hll := h.l0
  have hlu : (us.set p ⟨log, 1, []⟩).length = n := by rw [List.length_set]; exact h.lu
  refine ⟨h.lp, hlu, h.l0, h.p0, ?_, G, g1, g2, ?_⟩
  · intro j v hv
    rcases at_set hv with ⟨-, rfl⟩ | ⟨-, hv⟩
    · exact .inr (.inl ⟨rfl, hll, by simp, by simp, fun i hi => by simp at hi⟩)
    · exact h.u0 j v hv
  · intro x x0 x1
    by_cases e : x = log
    · have := List.countP_le_length (p := act x) (l := us.set p ⟨log, 1, []⟩)
      rw [hlu] at this
      omega
    · have hs := act_set (v := ⟨log, 1, []⟩) hu x
      have ha : act x u = false := by unfold act; rw [decide_eq_false_iff_not]; omega
      have hb : act x ⟨log, 1, []⟩ = false := by unfold act; rw [decide_eq_false_iff_not]; simp; omega
      rw [ha, hb] at hs
      have := g3 x x0 x1
      simp at hs
      omega

/-- One position is read. -/
theorem OverInv.read {n : Nat} {ar log : Int} {pub : List Int} {us : List Us} (h : OverInv n ar log pub us) {p : Nat} {u : Us} (hu : us[p]? = some u) (hd : u.does = 1) (hr : u.rd.length < n) :
    OverInv n ar log pub (us.set p ⟨u.pos, 1, u.rd ++ [pub.getD u.rd.length 0]⟩) := by
  obtain ⟨G, g1, g2, g3⟩ := h.g0
  have hlu : (us.set p ⟨u.pos, 1, u.rd ++ [pub.getD u.rd.length 0]⟩).length = n := by rw [List.length_set]; exact h.lu
  refine ⟨h.lp, hlu, h.l0, h.p0, ?_, G, g1, g2, ?_⟩
  · intro j v hv
    rcases at_set hv with ⟨-, rfl⟩ | ⟨-, hv⟩
    · rcases h.u0 p u hu with c | ⟨c, c1, c2, c3, c4⟩ | ⟨c, -⟩
      · omega
      · refine .inr (.inl ⟨rfl, c1, c2, by simp; omega, fun i hi => ?_⟩)
        simp only [List.length_append, List.length_cons, List.length_nil] at hi
        by_cases e : i = u.rd.length
        · subst e
          have := h.p0 _ hr
          simp [List.getD_eq_getElem?_getD] at this ⊢
          omega
        · have := c4 i (by omega)
          have e2 : (u.rd ++ [pub.getD u.rd.length 0]).getD i 0 = u.rd.getD i 0 := by
            rw [List.getD_eq_getElem?_getD, List.getElem?_append_left (by omega), ← List.getD_eq_getElem?_getD]
          rw [e2]
          exact this
      · omega
    · exact h.u0 j v hv
  · intro x x0 x1
    have hs := act_set (v := ⟨u.pos, 1, u.rd ++ [pub.getD u.rd.length 0]⟩) hu x
    have ha : act x u = act x ⟨u.pos, 1, u.rd ++ [pub.getD u.rd.length 0]⟩ := by unfold act; simp [hd]
    rw [ha] at hs
    have := g3 x x0 x1
    omega

/-- No room. -/
theorem OverInv.no {n : Nat} {ar log : Int} {pub : List Int} {us : List Us} (h : OverInv n ar log pub us) {p : Nat} {u : Us} (hu : us[p]? = some u) (y : Int) (r : List Int) :
    OverInv n ar log pub (us.set p ⟨y, 0, r⟩) := by
  obtain ⟨G, g1, g2, g3⟩ := h.g0
  refine ⟨h.lp, by rw [List.length_set]; exact h.lu, h.l0, h.p0, ?_, G, g1, g2, ?_⟩
  · intro j v hv
    rcases at_set hv with ⟨-, rfl⟩ | ⟨-, hv⟩
    · exact .inl rfl
    · exact h.u0 j v hv
  · intro x x0 x1
    have hs := act_set (v := ⟨y, 0, r⟩) hu x
    have hb : act x ⟨y, 0, r⟩ = false := by unfold act; rw [decide_eq_false_iff_not]; simp
    rw [hb] at hs
    simp only [Bool.false_eq_true, if_false] at hs
    have := g3 x x0 x1
    omega

theorem mnl_le (l : List Int) : ∀ x ∈ l, mnl l ≤ x := by
  have key : ∀ (xs : List Int) (a : Int), xs.foldl (fun a b => if b < a then b else a) a ≤ a ∧ ∀ x ∈ xs, xs.foldl (fun a b => if b < a then b else a) a ≤ x := by
    intro xs
    induction xs with
    | nil => intro a; exact ⟨Int.le_refl _, fun x hx => by cases hx⟩
    | cons y ys ih =>
      intro a
      rw [List.foldl_cons]
      obtain ⟨i1, i2⟩ := ih (if y < a then y else a)
      refine ⟨?_, fun x hx => ?_⟩
      · split at i1 <;> split <;> omega
      · rcases List.mem_cons.1 hx with rfl | hx
        · split at i1 <;> split <;> omega
        · exact i2 x hx
  match l with
  | [] => intro x hx; cases hx
  | y :: ys =>
    intro x hx
    rcases List.mem_cons.1 hx with rfl | hx
    · exact (key ys x).1
    · exact (key ys y).2 x hx

/-- Room. -/
theorem OverInv.yes {n : Nat} {ar log : Int} {pub : List Int} {us : List Us} (h : OverInv n ar log pub us) {p : Nat} {u : Us} (hu : us[p]? = some u) (hd : u.does = 1) (hr : u.rd.length = n) (hm : u.pos + n ≤ mnl u.rd + ar) (r : List Int) :
    OverInv n ar log pub (us.set p ⟨u.pos, 2, r⟩) := by
  obtain ⟨G, g1, g2, g3⟩ := h.g0
  refine ⟨h.lp, by rw [List.length_set]; exact h.lu, h.l0, h.p0, ?_, G, g1, g2, ?_⟩
  · intro j v hv
    rcases at_set hv with ⟨-, rfl⟩ | ⟨-, hv⟩
    · rcases h.u0 p u hu with c | ⟨c, c1, c2, c3, c4⟩ | ⟨c, -⟩
      · omega
      · refine .inr (.inr ⟨rfl, c1, c2, fun i hi => ?_⟩)
        have h1 := c4 i (by omega)
        have h2 := mnl_le u.rd (u.rd.getD i 0) (by rw [List.getD_eq_getElem?_getD, List.getElem?_eq_getElem (by omega)]; exact List.getElem_mem (by omega))
        simp only
        omega
      · omega
    · exact h.u0 j v hv
  · intro x x0 x1
    have hs := act_set (v := ⟨u.pos, 2, r⟩) hu x
    have ha : act x u = act x ⟨u.pos, 2, r⟩ := by unfold act; simp [hd]
    rw [ha] at hs
    have := g3 x x0 x1
    omega

/-- An entry is added: it is not above any published position and the arena, and the law goes on. -/
theorem OverInv.add {n : Nat} {ar log : Int} {pub : List Int} {us : List Us} (h : OverInv n ar log pub us) {p : Nat} {u : Us} (hu : us[p]? = some u) (hd : u.does = 2) (r : List Int) :
    (∀ j, j < n → log + 1 ≤ pub.getD j 0 + ar) ∧ OverInv n ar (log + 1) pub (us.set p ⟨u.pos, 0, r⟩) := by
  obtain ⟨G, g1, g2, g3⟩ := h.g0
  rcases h.u0 p u hu with c | ⟨c, -⟩ | ⟨c, c1, c2, c3⟩
  · omega
  · omega
  have hll := h.l0
  have hs := fun x => act_set (v := ⟨u.pos, 0, r⟩) hu x
  have hb : ∀ x, act x ⟨u.pos, 0, r⟩ = false := by intro x; unfold act; rw [decide_eq_false_iff_not]; simp
  have ha : ∀ x, u.pos ≤ x → act x u = true := by intro x hx; unfold act; rw [decide_eq_true_iff]; omega
  obtain ⟨G', q0, q1, q2, q3, q4⟩ : ∃ G' : Int, G' ≤ log ∧ (∀ j, j < n → G' + n ≤ pub.getD j 0 + ar) ∧ G ≤ G' ∧ u.pos ≤ G' ∧ True := by
    by_cases e : G ≤ u.pos
    · exact ⟨u.pos, c2, c3, e, Int.le_refl _, trivial⟩
    · exact ⟨G, g1, g2, Int.le_refl _, by omega, trivial⟩
  have step : ∀ x, G' ≤ x → x ≤ log → log + 1 + ((us.set p ⟨u.pos, 0, r⟩).countP (act x) : Nat) ≤ x + n := by
    intro x x0 x1
    have e := hs x
    rw [hb x, ha x (by omega)] at e
    simp at e
    have := g3 x (by omega) x1
    omega
  have hlu : (us.set p ⟨u.pos, 0, r⟩).length = n := by rw [List.length_set]; exact h.lu
  refine ⟨fun j hj => ?_, h.lp, hlu, by omega, fun j hj => by have := h.p0 j hj; omega, ?_, G', by omega, q1, ?_⟩
  · have := step G' (Int.le_refl _) q0
    have := q1 j hj
    omega
  · intro j v hv
    rcases at_set hv with ⟨-, rfl⟩ | ⟨-, hv⟩
    · exact .inl rfl
    · rcases h.u0 j v hv with c | ⟨d, d1, d2, d3, d4⟩ | ⟨d, d1, d2, d3⟩
      · exact .inl c
      · exact .inr (.inl ⟨d, d1, by omega, d3, d4⟩)
      · exact .inr (.inr ⟨d, d1, by omega, d3⟩)
  · intro x x0 x1
    by_cases e : x ≤ log
    · exact step x x0 e
    · have := List.countP_le_length (p := act x) (l := us.set p ⟨u.pos, 0, r⟩)
      rw [hlu] at this
      omega

/-- At the start. -/
theorem OverInv.zero (n : Nat) (ar : Int) (h : (n : Int) ≤ ar) : OverInv n ar 0 (List.replicate n 0) (List.replicate n ⟨0, 0, []⟩) := by
  have hz : ∀ j, (List.replicate n (0 : Int)).getD j 0 = 0 := by
    intro j
    rw [List.getD_eq_getElem?_getD, List.getElem?_replicate]
    split <;> rfl
  refine ⟨by simp, by simp, Int.le_refl _, fun j hj => by rw [hz]; omega, fun j u hu => ?_, 0, Int.le_refl _, fun j hj => by rw [hz]; omega, fun x x0 x1 => ?_⟩
  · rw [List.getElem?_replicate] at hu
    split at hu
    · obtain rfl := Option.some.inj hu; exact .inl rfl
    · cases hu
  · have := List.countP_le_length (p := act x) (l := List.replicate n (⟨0, 0, []⟩ : Us))
    rw [List.length_replicate] at this
    omega

end Go.Proofs.Ytkjmnmcekhnkmab
