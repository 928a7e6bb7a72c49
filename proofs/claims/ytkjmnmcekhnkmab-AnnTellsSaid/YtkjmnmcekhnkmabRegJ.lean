/- A region that draws its order, by an invariant that speaks of the operations that have come up: each operation is walked once, whatever the order. -/
import Derived.Test.YtkjmnmcekhnkmabProg
import Derived.WalkKit
import Derived.StillTail
import Derived.Deep.RegionHeld3
namespace Go.Proofs.Ytkjmnmcekhnkmab
open Go.RowKit
set_option linter.unusedSimpArgs false
set_option linter.unusedVariables false

/-- Every operation waits for earlier ones alone. -/
def ordB (ops : Array Oper) : Bool := (List.range ops.size).all fun i => match ops[i]? with | some o => o.after.all (fun e => decide (e.on < i)) | none => true
theorem ordB_spec {ops : Array Oper} (h : ordB ops = true) {i : Nat} {o : Oper} (ho : ops[i]? = some o) : ∀ e ∈ o.after, e.on < i := by
  intro e he
  have hi : i < ops.size := (Array.getElem?_eq_some_iff.1 ho).1
  have := List.all_eq_true.1 h i (List.mem_range.2 hi)
  rw [ho] at this
  simp only [Array.all_eq_true_iff_forall_mem] at this
  exact of_decide_eq_true (this e he)

theorem least_false (p : Nat → Bool) (n : Nat) : (∀ i, i < n → p i = true) ∨ ∃ i, i < n ∧ p i = false ∧ ∀ j, j < i → p j = true := by
  induction n with
  | zero => exact .inl (fun i hi => by omega)
  | succ n ih =>
    rcases ih with h | ⟨i, h1, h2, h3⟩
    · cases hp : p n
      · exact .inr ⟨n, by omega, hp, h⟩
      · exact .inl (fun i hi => by
          by_cases e : i = n
          · rw [e]; exact hp
          · exact h i (by omega))
    · exact .inr ⟨i, by omega, h2, h3⟩

section
variable {P : Program} {ops : Array Oper} {Q : Exit → Act → World → Prop}

theorem wpAny_J (hord : ordB ops = true) (J : (Nat → Bool) → Act → World → Prop)
    (hstep : ∀ (L : Nat → Bool) (a : Act) (w : World) (i : Nat) (o : Oper), J L a w → L i = false → ops[i]? = some o → (∀ e ∈ o.after, Region.binds .any e = true → L e.on = true) →
      ∀ K' : Act → World → Prop, (∀ a w, J (fun j => j == i || L j) a w → K' a w) → if Region.wanted o (yielded ops a.tmps) = true then Oper.wp P o a w K' Q else K' (a.put o.dst undef) w)
    (hend : ∀ (L : Nat → Bool) (a : Act) (w : World), J L a w → (∀ i, i < ops.size → L i = true) → Q .normal a w) :
    ∀ (fuel : Nat) (listed : Array Bool) (a : Act) (w : World), listed.size = ops.size → (List.range ops.size).countP (fun j => !listed.getD j false) ≤ fuel → J (fun j => listed.getD j false) a w → wpAny P .any ops Q fuel listed a w := by
  have hready : ∀ listed : Array Bool, listed.size = ops.size → Region.ready .any ops listed = [] → ∀ i, i < ops.size → listed.getD i false = true := by
    intro listed hs hr
    rcases least_false (fun j => listed.getD j false) ops.size with h | ⟨i, h1, h2, h3⟩
    · exact h
    · exfalso
      have ho : ops[i]? = some ops[i] := Array.getElem?_eq_getElem h1
      have : i ∈ Region.ready .any ops listed := mem_ready.2 ⟨getD_in (by omega) h2, _, ho, fun e he _ => h3 _ (ordB_spec hord ho e he)⟩
      rw [hr] at this
      cases this
  intro fuel
  induction fuel with
  | zero =>
    intro listed a w hs hc hJ
    have hall : ∀ i, i < ops.size → listed.getD i false = true := by
      intro i hi
      have := List.countP_eq_zero.1 (Nat.le_zero.1 hc) i (List.mem_range.2 hi)
      simpa using this
    refine ⟨?_, hend _ a w hJ hall⟩
    cases hr : Region.ready .any ops listed with
    | nil => rfl
    | cons i l =>
      exfalso
      have hi : i ∈ Region.ready .any ops listed := by rw [hr]; exact List.mem_cons_self
      obtain ⟨h1, o, ho, -⟩ := mem_ready.1 hi
      have := hall i (Array.getElem?_eq_some_iff.1 ho).1
      rw [getD_both h1] at this
      cases this
  | succ fuel ih =>
    intro listed a w hs hc hJ
    refine ⟨fun hr => hend _ a w hJ (hready listed hs hr), fun i hi => ?_⟩
    obtain ⟨h1, o, ho, hdep⟩ := mem_ready.1 hi
    have hil : i < ops.size := (Array.getElem?_eq_some_iff.1 ho).1
    refine wpOp_step ho (fun K' hK => hstep _ a w i o hJ (getD_both h1) ho hdep K' (fun a' w' hJ' => hK a' w' (ih _ a' w' (by simp [hs]) ?_ ?_)))
    · have key : ∀ n, n ≤ ops.size → i < n → (List.range n).countP (fun j => !(listed.setIfInBounds i true).getD j false) + 1 ≤ (List.range n).countP (fun j => !listed.getD j false) := by
        intro n
        induction n with
        | zero => intro _ h; omega
        | succ n ihn =>
          intro hn hin
          rw [List.range_succ, List.countP_append, List.countP_append]
          by_cases e : i = n
          · subst e
            have : (List.range i).countP (fun j => !(listed.setIfInBounds i true).getD j false) = (List.range i).countP (fun j => !listed.getD j false) := by
              refine List.countP_congr (fun j hj => ?_)
              rw [getD_set_ne false (by have := List.mem_range.1 hj; omega)]
            rw [this]
            have e1 : listed.getD i false = false := getD_both h1
            have e2 : (listed.setIfInBounds i true).getD i false = true := by
              rw [Array.getD_eq_getD_getElem?, Array.getElem?_setIfInBounds_self_of_lt (by omega)]; rfl
            simp only [List.countP_cons, List.countP_nil, e1, e2]
            simp
          · have := ihn (by omega) (by omega)
            simp only [List.countP_cons, List.countP_nil]
            rw [getD_set_ne false e]
            omega
      have := key ops.size (Nat.le_refl _) hil
      omega
    · have e : (fun j => (listed.setIfInBounds i true).getD j false) = (fun j => j == i || listed.getD j false) := by
        funext j
        by_cases e : i = j
        · subst e
          rw [Array.getD_eq_getD_getElem?, Array.getElem?_setIfInBounds_self_of_lt (by omega)]; simp
        · rw [getD_set_ne false e]
          have : (j == i) = false := by rw [beq_eq_false_iff_ne]; exact fun h => e h.symm
          rw [this, Bool.false_or]
      rw [e]
      exact hJ'

theorem wp_region_J {id : Nat} {a : Act} {w : World} (hm : P.follows .mixedOrders = true) (hord : ordB ops = true) (J : (Nat → Bool) → Act → World → Prop) (h0 : J (fun _ => false) a w.drew)
    (hstep : ∀ (L : Nat → Bool) (a : Act) (w : World) (i : Nat) (o : Oper), J L a w → L i = false → ops[i]? = some o → (∀ e ∈ o.after, Region.binds .any e = true → L e.on = true) →
      ∀ K' : Act → World → Prop, (∀ a w, J (fun j => j == i || L j) a w → K' a w) → if Region.wanted o (yielded ops a.tmps) = true then Oper.wp P o a w K' Q else K' (a.put o.dst undef) w)
    (hend : ∀ (L : Nat → Bool) (a : Act) (w : World), J L a w → (∀ i, i < ops.size → L i = true) → Q .normal a w) : (Code.region id ops true).wp P Q a w := by
  refine wp_region_any hm (wpAny_J hord J hstep hend _ _ _ _ (by simp) ?_ ?_)
  · have := List.countP_le_length (p := fun j => !(Array.replicate ops.size false).getD j false) (l := List.range ops.size)
    rwa [List.length_range] at this
  · have e : (fun j => (Array.replicate ops.size false).getD j false) = fun _ => false := by funext j; exact getD_replicate_false _ _
    rw [e]
    exact h0
end
end Go.Proofs.Ytkjmnmcekhnkmab
