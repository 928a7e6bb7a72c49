/- Arguments that are structs and slices of such, opened to their cells. -/
import Derived.Test.YthllfeogchbihacProg
import Derived.WalkKit
import Derived.ProofKit
import Derived.OpenShut
import Derived.ShutString
import Derived.ChangeOld
import Derived.Below
import Derived.SizedLaws
import Derived.Deep.Slices
import Derived.Deep.Fields
import Derived.ChangeSame
namespace Go.Proofs.Ythllfeogchbihac
open Go.ChangeShapes Go.WideShapes Go.ChangeAt Go.RowKit Go.Deep
set_option linter.unusedVariables false
section
variable {H : Type} {enc : TypeId × Value → H} {P : Program} {W : World}
theorem wf_min_max {k : IntKind} {z : Int} (h : (Lit.int k z).wf = true) : k.min ≤ z ∧ z ≤ k.max := by simpa [Lit.wf] using h
theorem wf_u8 {z : Int} (h : (Lit.int .u8 z).wf = true) : 0 ≤ z ∧ z ≤ 255 := wf_min_max h
theorem wf_u16 {z : Int} (h : (Lit.int .u16 z).wf = true) : 0 ≤ z ∧ z ≤ 65535 := wf_min_max h
theorem wf_i64' {z : Int} (h : (Lit.int .i64 z).wf = true) : -9223372036854775808 ≤ z ∧ z ≤ 9223372036854775807 := wf_min_max h
/-- The cells of a value of a type, where its parts are numbers, bools, structs and slices of such: what they are, and what lies behind the slices. -/
def deepOk (P : Program) (W : World) : Nat → TypeId → List Value → Prop
  | 0, _, _ => True
  | n + 1, t, cs => match P.underlying t with
    | some (.int k) => ∃ z, cs = [.int k z] ∧ (Lit.int k z).wf = true
    | some .bool => ∃ b, cs = [.bool b]
    | some (.struct fs) => ∀ (j : Nat) (f : Field), fs[j]? = some f → deepOk P W n f.type ((cs.drop f.offset).take (P.cellsOf f.type))
    | some (.slice e) => ∃ A len cap, cs = [.slice A len cap] ∧ len ≤ maxLen ∧ (A = none → len = 0) ∧ (0 < P.cellsOf e → ∀ i, i < len → ∃ (g o : Nat) (es : List Value), A = some ⟨g, o, none⟩ ∧ g < W.heap.size ∧ es.length = P.cellsOf e ∧
        (∀ q, q < P.cellsOf e → W.cell? ⟨g, o + (i * P.cellsOf e + q), none⟩ = es[q]?) ∧ deepOk P W n e es)
    | _ => True
theorem deepOk_int {n : Nat} {t : TypeId} {k : IntKind} {cs : List Value} (ht : P.underlying t = some (.int k)) (h : deepOk P W (n + 1) t cs) : ∃ z, cs = [.int k z] ∧ (Lit.int k z).wf = true := by
  rw [deepOk, ht] at h; exact h
theorem deepOk_bool {n : Nat} {t : TypeId} {cs : List Value} (ht : P.underlying t = some .bool) (h : deepOk P W (n + 1) t cs) : ∃ b, cs = [.bool b] := by
  rw [deepOk, ht] at h; exact h
theorem deepOk_struct {n : Nat} {t : TypeId} {fs : Array Field} {cs : List Value} (ht : P.underlying t = some (.struct fs)) (h : deepOk P W (n + 1) t cs) :
    ∀ (j : Nat) (f : Field), fs[j]? = some f → deepOk P W n f.type ((cs.drop f.offset).take (P.cellsOf f.type)) := by
  rw [deepOk, ht] at h; exact h
theorem deepOk_at {n : Nat} {t : TypeId} {fs : Array Field} {cs : List Value} (ht : P.underlying t = some (.struct fs)) (h : deepOk P W (n + 1) t cs) (j : Nat) (ty off c : Nat) (f : Field) (hj : fs[j]? = some f) (e1 : f.type = ty) (e2 : f.offset = off) (e3 : P.cellsOf ty = c) :
    deepOk P W n ty ((cs.drop off).take c) := by
  have := deepOk_struct ht h j f hj
  rw [e1, e2, e3] at this
  exact this
theorem deepOk_slice {n : Nat} {t e : TypeId} {cs : List Value} (ht : P.underlying t = some (.slice e)) (h : deepOk P W (n + 1) t cs) :
    ∃ A len cap, cs = [.slice A len cap] ∧ len ≤ maxLen ∧ (A = none → len = 0) ∧ (0 < P.cellsOf e → ∀ i, i < len → ∃ (g o : Nat) (es : List Value), A = some ⟨g, o, none⟩ ∧ g < W.heap.size ∧ es.length = P.cellsOf e ∧
        (∀ q, q < P.cellsOf e → W.cell? ⟨g, o + (i * P.cellsOf e + q), none⟩ = es[q]?) ∧ deepOk P W n e es) := by
  rw [deepOk, ht] at h; exact h
theorem deepOk_of : ∀ (n : Nat) {fuel : Nat} {t : TypeId} {cs : List Value} {x : DataW H × List MemPlace}, DataW.trod enc P W 0 (fun _ => true) true fuel t cs = some x → (∀ y ∈ x.2, y.block < W.heap.size) → deepOk P W n t cs := by
  intro n
  induction n with
  | zero => intros; exact True.intro
  | succ n ih =>
    intro fuel t cs x h hlt
    unfold deepOk
    split
    · rename_i k hk
      obtain ⟨z, hz, -, hw⟩ := DataW.trod_int hk h
      exact ⟨z, hz, hw⟩
    · rename_i hk
      obtain ⟨z, hz, -⟩ := DataW.trod_bool hk h
      exact ⟨z, hz⟩
    · rename_i fs hk
      obtain ⟨xs, m, -, hx, -, hlen, hf⟩ := DataW.trod_struct hk h
      intro j f hj
      have := hf j f hj
      have hjl : j < fs.size := (Array.getElem?_eq_some_iff.1 hj).1
      rw [List.getElem?_eq_getElem (by omega)] at this
      refine ih this (fun y hy => hlt y ?_)
      rw [hx]
      exact List.mem_flatMap.2 ⟨_, List.getElem_mem (by omega), hy⟩
    · rename_i e hk
      rcases open_slice hk h with ⟨hcs, hx⟩ | ⟨a, len, cap, m, n', D, Pl, hcs, _, hl, hm, hmm, hx, hi⟩
      · exact ⟨none, 0, 0, hcs, by decide, fun _ => rfl, fun _ i hi => by omega⟩
      · simp only [if_true] at hmm
        refine ⟨some a, len, cap, hcs, by omega, fun h => (by cases h), fun hc i hin => ?_⟩
        obtain ⟨es, hcells, htr⟩ := hi i (by omega)
        obtain ⟨_, hlen, hat⟩ := World.cells?_some hcells
        have hspot : a.spot = none := by
          obtain ⟨cs0, hcells0, -⟩ := hi 0 (by omega)
          obtain ⟨_, hlen0, hat0⟩ := World.cells?_some hcells0
          have h0 := hat0 0 hc
          rw [List.getElem?_eq_getElem (by omega)] at h0
          simpa [Addr.add] using World.cell?_spot h0
        obtain ⟨b, off, spot⟩ := a
        simp only at hspot
        subst hspot
        refine ⟨b, off, es, rfl, ?_, hlen, fun q hq => ?_, ih htr (fun y hy => hlt y ?_)⟩
        · refine hlt (.cell b off) ?_
          rw [hx]
          refine List.mem_append_left _ (MemPlace.mem_row.2 ⟨0, ?_, by simp⟩)
          have : 1 ≤ m := by omega
          exact Nat.mul_pos this hc
        · have := hat q hq
          rw [add_plain, add_plain] at this
          rw [← this, Nat.add_assoc]
        · rw [hx]
          exact List.mem_append_right _ (List.mem_flatMap.2 ⟨i, List.mem_range.2 (by omega), hy⟩)
    · exact True.intro
/-- A slice of such, opened. -/
theorem open_deep_slice {r : Reach} {b0 : Nat} {t e : TypeId} {v : Value} {d : DataW H} {p : List MemPlace} (ht : P.underlying t = some (.slice e))
    (hv : Value.okWide P W r b0 t v) (h : DataW.Trod enc P W 0 (fun _ => true) true t v d p) (hlt : ∀ x ∈ p, x.block < W.heap.size) :
    ∃ A n cap, v = .slice A n cap ∧ deepOk P W 8 t [.slice A n cap] := by
  obtain ⟨a0, len, cap, rfl⟩ := okWide_slice ht hv
  obtain ⟨fuel, hf⟩ := h
  exact ⟨_, _, _, rfl, deepOk_of 8 hf hlt⟩
/-- A struct of such, opened. -/
theorem open_deep_agg {r : Reach} {b0 : Nat} {t : TypeId} {fs : Array Field} {v : Value} {d : DataW H} {p : List MemPlace} (ht : P.underlying t = some (.struct fs))
    (hv : Value.okWide P W r b0 t v) (h : DataW.Trod enc P W 0 (fun _ => true) true t v d p) (hlt : ∀ x ∈ p, x.block < W.heap.size) :
    ∃ cs : Array Value, v = .agg cs ∧ cs.size = P.cellsOf t ∧ deepOk P W 8 t cs.toList := by
  obtain ⟨cs, rfl, hsz⟩ := okWide_struct ht hv
  obtain ⟨fuel, hf⟩ := h
  exact ⟨cs, rfl, hsz, deepOk_of 8 hf hlt⟩
end
end Go.Proofs.Ythllfeogchbihac
