/- Heaps, in plain Lean: arrays one behind the other in one row of words. -/
import Derived.Test.YthllfeogchbihabHeapB
namespace Go.Proofs.Ythllfeogchbihab
set_option linter.unusedSimpArgs false
set_option linter.unusedVariables false

/-- Where array k begins. -/
def st (arrs : List (List Int)) (k : Nat) : Nat := (arrs.take k).flatten.length
/-- The words: the arrays', one behind the other, and the rest, noughts. -/
def words (room : Nat) (arrs : List (List Int)) : List Int := arrs.flatten ++ List.replicate (room - arrs.flatten.length) 0
theorem words_length {room : Nat} {arrs : List (List Int)} (h : arrs.flatten.length ≤ room) : (words room arrs).length = room := by
  simp only [words, List.length_append, List.length_replicate]; omega

theorem split_at {arrs : List (List Int)} {k : Nat} (h : k < arrs.length) : arrs = arrs.take k ++ arrs[k] :: arrs.drop (k + 1) := by
  conv => lhs; rw [← List.take_append_drop k arrs, List.drop_eq_getElem_cons h]
theorem flatten_split {arrs : List (List Int)} {k : Nat} (h : k < arrs.length) : arrs.flatten = (arrs.take k).flatten ++ (arrs[k] ++ (arrs.drop (k + 1)).flatten) := by
  have e : arrs.flatten = (arrs.take k ++ arrs[k] :: arrs.drop (k + 1)).flatten := congrArg List.flatten (split_at h)
  rw [e, List.flatten_append, List.flatten_cons]
theorem st_le {arrs : List (List Int)} {k : Nat} (h : k < arrs.length) : st arrs k + arrs[k].length ≤ arrs.flatten.length := by
  have := congrArg List.length (flatten_split h)
  simp only [List.length_append] at this
  unfold st
  omega
theorem st_succ {arrs : List (List Int)} {k : Nat} (h : k < arrs.length) : st arrs (k + 1) = st arrs k + arrs[k].length := by
  unfold st
  rw [List.take_succ_eq_append_getElem h]
  simp only [List.flatten_append, List.length_append, List.flatten_cons, List.flatten_nil, List.append_nil]
theorem st_all (arrs : List (List Int)) : st arrs arrs.length = arrs.flatten.length := by
  unfold st; rw [List.take_of_length_le (Nat.le_refl _)]
theorem words_get {room : Nat} {arrs : List (List Int)} {k i : Nat} (h : k < arrs.length) (hi : i < arrs[k].length) : (words room arrs)[st arrs k + i]? = some (arrs[k][i]) := by
  have hl := st_le h
  unfold words
  rw [List.getElem?_append_left (by omega), flatten_split h, List.getElem?_append_right (by unfold st; omega)]
  unfold st
  rw [Nat.add_sub_cancel_left, List.getElem?_append_left hi, List.getElem?_eq_getElem hi]
theorem words_set {room : Nat} {arrs : List (List Int)} {k i : Nat} (h : k < arrs.length) (hi : i < arrs[k].length) (v : Int) :
    (words room arrs).set (st arrs k + i) v = words room (arrs.set k (arrs[k].set i v)) := by
  have hl := st_le h
  have hk : k < (arrs.set k (arrs[k].set i v)).length := by simpa using h
  have e1 : (arrs.set k (arrs[k].set i v)).flatten = arrs.flatten.set (st arrs k + i) v := by
    rw [flatten_split hk, flatten_split h]
    rw [List.take_set_of_le (Nat.le_refl _), List.drop_set_of_lt (by omega), List.getElem_set_self]
    rw [List.set_append_right _ _ (by unfold st; omega)]
    unfold st
    rw [Nat.add_sub_cancel_left, List.set_append_left _ _ hi]
  unfold words
  rw [e1, List.length_set, List.set_append_left _ _ (by omega)]
theorem set_flatten_length {arrs : List (List Int)} {k : Nat} (h : k < arrs.length) (i : Nat) (v : Int) : (arrs.set k (arrs[k].set i v)).flatten.length = arrs.flatten.length := by
  have hk : k < (arrs.set k (arrs[k].set i v)).length := by simpa using h
  have e1 := congrArg List.length (flatten_split hk)
  have e2 := congrArg List.length (flatten_split h)
  rw [List.take_set_of_le (Nat.le_refl _), List.drop_set_of_lt (by omega), List.getElem_set_self] at e1
  simp only [List.length_append, List.length_set] at e1 e2
  omega
theorem set_st {arrs : List (List Int)} {k j : Nat} (h : k < arrs.length) (i : Nat) (v : Int) : st (arrs.set k (arrs[k].set i v)) j = st arrs j := by
  unfold st
  simp only [List.length_flatten, List.map_take, List.map_set]
  congr 2
  rw [List.length_set]
  have e : (List.map List.length arrs)[k]? = some arrs[k].length := by rw [List.getElem?_map, List.getElem?_eq_getElem h]; rfl
  obtain ⟨hk, e'⟩ := List.getElem?_eq_some_iff.1 e
  rw [← e']
  exact List.set_getElem_self hk
theorem words_make {room : Nat} {arrs : List (List Int)} {n : Nat} (h : arrs.flatten.length + n ≤ room) : words room (arrs ++ [List.replicate n 0]) = words room arrs := by
  unfold words
  simp only [List.flatten_append, List.flatten_cons, List.flatten_nil, List.append_nil, List.length_append, List.length_replicate, List.append_assoc]
  rw [List.replicate_append_replicate]
  congr 2
  omega
theorem make_st {arrs : List (List Int)} {x : List Int} {j : Nat} (h : j ≤ arrs.length) : st (arrs ++ [x]) j = st arrs j := by
  unfold st; rw [List.take_append_of_le_length h]

/-- The arrays as slices of the row of words. -/
def svs (gw : Nat) (arrs : List (List Int)) : List SV := (List.range arrs.length).map fun j => (some ⟨gw, if (arrs[j]?.getD []).length = 0 then 0 else st arrs j, none⟩, (arrs[j]?.getD []).length, (arrs[j]?.getD []).length)
theorem svs_length (gw : Nat) (arrs : List (List Int)) : (svs gw arrs).length = arrs.length := by simp [svs]
theorem svs_get (gw : Nat) (arrs : List (List Int)) (j : Nat) (h : j < arrs.length) : (svs gw arrs)[j]? = some (some ⟨gw, if arrs[j].length = 0 then 0 else st arrs j, none⟩, arrs[j].length, arrs[j].length) := by
  unfold svs
  simp only [List.getElem?_map, List.getElem?_range h, Option.map_some, List.getElem?_eq_getElem h, Option.getD_some]
theorem svs_set (gw : Nat) {arrs : List (List Int)} {k : Nat} (h : k < arrs.length) (i : Nat) (v : Int) : svs gw (arrs.set k (arrs[k].set i v)) = svs gw arrs := by
  apply List.ext_getElem?
  intro j
  by_cases hj : j < arrs.length
  · rw [svs_get _ _ j (by simpa using hj), svs_get _ _ j hj, set_st h, List.getElem_set]
    split
    · rename_i e; subst e; rw [List.length_set]
    · rfl
  · rw [List.getElem?_eq_none (by rw [svs_length]; simpa using hj), List.getElem?_eq_none (by rw [svs_length]; omega)]
theorem svs_make (gw : Nat) (arrs : List (List Int)) (x : List Int) : svs gw (arrs ++ [x]) = svs gw arrs ++ [(some ⟨gw, if x.length = 0 then 0 else arrs.flatten.length, none⟩, x.length, x.length)] := by
  apply List.ext_getElem?
  intro j
  rcases Nat.lt_trichotomy j arrs.length with hj | hj | hj
  · rw [svs_get _ _ j (by simp; omega), List.getElem?_append_left (by rw [svs_length]; exact hj), svs_get _ _ j hj, make_st (by omega), List.getElem_append_left hj]
  · subst hj
    rw [svs_get _ _ _ (by simp), List.getElem?_append_right (by rw [svs_length]; omega), svs_length, Nat.sub_self, make_st (Nat.le_refl _), st_all, List.getElem_append_right (by omega)]
    simp
  · rw [List.getElem?_eq_none (by rw [svs_length]; simp; omega), List.getElem?_eq_none (by simp [svs_length]; omega)]

/-- The words given, as the program adds them up. -/
theorem sum_svs (gw : Nat) (arrs : List (List Int)) (h : arrs.flatten.length ≤ 1024) : ∀ k, k ≤ arrs.length → sumW (upto (fun j => (j, nthV (svs gw arrs) j)) (k + 1)) = st arrs k := by
  intro k
  induction k with
  | zero => intro _; simp [upto, sumW, nthV, Go.RowKit.wrap64, st]
  | succ k ih =>
    intro hk
    rw [upto_succ, sumW_snoc, ih (by omega)]
    have hs := st_le (show k < arrs.length by omega)
    simp only [nthV, Nat.add_one_ne_zero, if_false, Nat.add_sub_cancel]
    rw [svs_get _ _ k (by omega), Option.getD_some, st_succ (by omega)]
    simp only
    unfold Go.RowKit.wrap64
    have hk2 : k < arrs.length := by omega
    have hs2 : st arrs k + arrs[k].length ≤ arrs.flatten.length := hs
    generalize arrs[k].length = q at *
    omega

end Go.Proofs.Ythllfeogchbihab
