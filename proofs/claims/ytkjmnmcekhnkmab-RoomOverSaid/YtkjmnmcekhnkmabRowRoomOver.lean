/- Whatever N processes do, no entry's index is above the least published position and L: for every number of processes, every arena and every slice of picks, no condition. -/
import Derived.Test.YtkjmnmcekhnkmabRows
import Derived.Test.YtkjmnmcekhnkmabRoomX
import Derived.WalkKit
import Derived.ProofKit
import Derived.OpenShut
import Derived.ShutString
import Derived.ChangeOld
import Derived.Below
import Derived.SizedLaws
import Derived.Deep.Slices
import Derived.Deep.Fields
import Derived.ChangeSame
namespace Go.Proofs.Ytkjmnmcekhnkmab.roomOver
open Go.ChangeShapes Go.WideShapes Go.ChangeAt Go.RowKit Go.Deep
open Go.ChangeMaps (open_string shut_string)
set_option linter.unusedVariables false
section
variable {H : Type} {enc : TypeId × Value → H} {P : Program} {W : World}
theorem wf_min_max {k : IntKind} {z : Int} (h : (Lit.int k z).wf = true) : k.min ≤ z ∧ z ≤ k.max := by simpa [Lit.wf] using h
theorem wf_u8 {z : Int} (h : (Lit.int .u8 z).wf = true) : 0 ≤ z ∧ z ≤ 255 := wf_min_max h
theorem wf_u16 {z : Int} (h : (Lit.int .u16 z).wf = true) : 0 ≤ z ∧ z ≤ 65535 := wf_min_max h
theorem wf_i64' {z : Int} (h : (Lit.int .i64 z).wf = true) : -9223372036854775808 ≤ z ∧ z ≤ 9223372036854775807 := wf_min_max h
/-- The cells of a value of a type, where its parts are numbers, bools, structs of such: what they are. -/
def leafOk (P : Program) : Nat → TypeId → List Value → Prop
  | 0, _, _ => True
  | n + 1, t, cs => match P.underlying t with
    | some (.int k) => ∃ z, cs = [.int k z] ∧ (Lit.int k z).wf = true
    | some .bool => ∃ b, cs = [.bool b]
    | some (.struct fs) => ∀ (j : Nat) (f : Field), fs[j]? = some f → leafOk P n f.type ((cs.drop f.offset).take (P.cellsOf f.type))
    | _ => True
theorem leafOk_of {base : Nat} {spare : Nat → Bool} {held : Bool} : ∀ (n : Nat) {fuel : Nat} {t : TypeId} {cs : List Value} {x : DataW H × List MemPlace}, DataW.trod enc P W base spare held fuel t cs = some x → leafOk P n t cs := by
  intro n
  induction n with
  | zero => intros; exact True.intro
  | succ n ih =>
    intro fuel t cs x h
    unfold leafOk
    split
    · rename_i k hk
      obtain ⟨z, hz, -, hw⟩ := DataW.trod_int hk h
      exact ⟨z, hz, hw⟩
    · rename_i hk
      obtain ⟨z, hz, -⟩ := DataW.trod_bool hk h
      exact ⟨z, hz⟩
    · rename_i fs hk
      obtain ⟨xs, m, -, -, -, hlen, hf⟩ := DataW.trod_struct hk h
      intro j f hj
      have := hf j f hj
      have hjl : j < fs.size := (Array.getElem?_eq_some_iff.1 hj).1
      rw [List.getElem?_eq_getElem (by omega)] at this
      exact ih this
    · exact True.intro
/-- A slice of structs, opened: its header, and each element's cells. -/
theorem open_structs {r : Reach} {b0 : Nat} {t e : TypeId} {v : Value} {d : DataW H} {p : List MemPlace} (ht : P.underlying t = some (.slice e))
    (hc : 0 < P.cellsOf e) (hv : Value.okWide P W r b0 t v) (h : DataW.Trod enc P W 0 (fun _ => true) true t v d p) (hlt : ∀ x ∈ p, x.block < W.heap.size) :
    ∃ A n cap, v = .slice A n cap ∧ (n : Int) ≤ 9223372036854775807 ∧ (∀ i, i < n → ∃ (g o : Nat) (cs : List Value), A = some ⟨g, o, none⟩ ∧ g < W.heap.size ∧ cs.length = P.cellsOf e ∧
      (∀ q, q < P.cellsOf e → W.cell? ⟨g, o + (i * P.cellsOf e + q), none⟩ = cs[q]?) ∧ leafOk P 6 e cs) := by
  obtain ⟨a0, len, cap, rfl⟩ := okWide_slice ht hv
  obtain ⟨fuel, hf⟩ := h
  rcases open_slice ht hf with ⟨hcs, hx⟩ | ⟨a, len', cap', m, n, D, Pl, hcs, _, hl, hm, hmm, hx, hi⟩
  · simp [Value.cells] at hcs
    obtain ⟨rfl, rfl, rfl⟩ := hcs
    exact ⟨_, _, _, rfl, by omega, fun i hi => by omega⟩
  · simp [Value.cells] at hcs
    obtain ⟨rfl, rfl, rfl⟩ := hcs
    simp only [Prod.mk.injEq] at hx
    obtain ⟨rfl, rfl⟩ := hx
    simp only [if_true] at hmm
    refine ⟨_, _, _, rfl, by unfold maxLen at hm; omega, fun i hin => ?_⟩
    obtain ⟨cs, hcells, htr⟩ := hi i (by omega)
    obtain ⟨_, hlen, hat⟩ := World.cells?_some hcells
    have hspot : a.spot = none := by
      obtain ⟨cs0, hcells0, -⟩ := hi 0 (by omega)
      obtain ⟨_, hlen0, hat0⟩ := World.cells?_some hcells0
      have h0 := hat0 0 hc
      rw [List.getElem?_eq_getElem (by omega)] at h0
      simpa [Addr.add] using World.cell?_spot h0
    obtain ⟨b, off, spot⟩ := a
    simp only at hspot
    subst hspot
    refine ⟨b, off, cs, rfl, ?_, hlen, fun q hq => ?_, leafOk_of 6 htr⟩
    · refine hlt (.cell b off) (List.mem_append_left _ (MemPlace.mem_row.2 ⟨0, ?_, by simp⟩))
      have : 1 ≤ m := by omega
      exact Nat.mul_pos this hc
    · have := hat q hq
      rw [add_plain, add_plain] at this
      rw [← this, Nat.add_assoc]
end

theorem cells48 : Try.prog.cellsOf 48 = 2 := by kernel_rfl
theorem cells5 : Try.prog.cellsOf 5 = 1 := by kernel_rfl
theorem cells4 : Try.prog.cellsOf 4 = 1 := by kernel_rfl
theorem picks_of {W : World} {A : Option Addr} {n : Nat} (h : ∀ i, i < n → ∃ (g o : Nat) (cs : List Value), A = some ⟨g, o, none⟩ ∧ g < W.heap.size ∧ cs.length = Try.prog.cellsOf 48 ∧
      (∀ q, q < Try.prog.cellsOf 48 → W.cell? ⟨g, o + (i * Try.prog.cellsOf 48 + q), none⟩ = cs[q]?) ∧ leafOk Try.prog 6 48 cs) : PicksAt W A n := by
  intro i hi
  obtain ⟨g, o, cs, hA, hg, hl, hc, hk⟩ := h i hi
  rw [cells48] at hl hc
  match cs, hl with
  | [x, y], _ =>
    simp only [leafOk, Try.underlying48] at hk
    have k0 := hk 0 _ rfl
    have k1 := hk 1 _ rfl
    simp [Try.underlying5, Try.underlying4, cells5, cells4] at k0 k1
    obtain ⟨z, rfl, hw⟩ := k0
    obtain ⟨b, rfl⟩ : ∃ b, y = .bool b := by rcases k1 with rfl | rfl <;> exact ⟨_, rfl⟩
    have c0 := hc 0 (by omega)
    have c1 := hc 1 (by omega)
    have hb := wf_u8 hw
    exact ⟨g, o, z, b, hA, hg, hb.1, hb.2, c0, by rw [Nat.add_assoc]; exact c1⟩

theorem own : ownKnob Try.prog.godebug = none := by kernel_rfl
set_option maxRecDepth 100000 in
theorem lifted (os : Os) (started : os.Started) (H : Type) (enc : TypeId × Value → H) :
    ReturnsInHanded {} Try.checked os 6 .any (Rows.roomOverSpec.pre6 enc Try.prog Try.f6 Rows.roomOverRow.domain false) (Rows.roomOverSpec.post enc Try.prog Try.f6 false true false false) := by
  refine returnsInHanded_of_change_sized (C := Try.checked) own started (by kernel_rfl) Try.func6
    (ChangeSpec.witness6 (enc := enc) (C := Try.checked) false ⟨#[], #[.int .i64 0, .int .i64 0, .slice none 0 0], []⟩ 8 (by kernel_rfl) (by kernel_rfl) (by kernel_rfl) (by kernel_rfl)) ?_
  intro W base args ds gs before hval0 hW hcnd hsz0 _
  have hsz : (DataW.weightsEach Try.prog (Try.f6.params.toList ++ Rows.roomOverSpec.plain.varTypes Try.prog) (ds ++ gs)).all (· ≤ reachBytes) = true := hsz0
  have hval : ∀ (j : Nat) t v, Try.f6.params[j]? = some t → args[j]? = some v → Value.okWide Try.prog W .any base t v := hval0
  have hW' := hW
  obtain ⟨p, q, hA0, hV, rfl, hfz, hnd⟩ := hW
  have hA : DataW.TrodAll enc Try.prog W 0 (fun _ => true) true Try.f6.params.toList args.toList ds p := hA0
  rw [Try.params6] at hA hval hsz
  obtain ⟨v0, vs0, d0, ds0, p0, q0, hargs, rfl, rfl, h0, r0⟩ := trodAll_cons hA
  obtain ⟨v1, vs1, d1, ds1, p1, q1, rfl, rfl, rfl, h1, r1⟩ := trodAll_cons r0
  obtain ⟨v2, vs2, d2, ds2, p2, q2, rfl, rfl, rfl, h2, r2⟩ := trodAll_cons r1
  obtain ⟨rfl, rfl, rfl⟩ := trodAll_nil r2
  obtain rfl : args = #[v0, v1, v2] := by cases args; simp_all
  obtain ⟨rfl, rfl⟩ := trodVars_none hV
  obtain ⟨a0, rfl, rfl, rfl, w0⟩ := open_int Try.underlying3 (hval 0 3 v0 rfl rfl) h0
  obtain ⟨a1, rfl, rfl, rfl, w1⟩ := open_int Try.underlying3 (hval 1 3 v1 rfl rfl) h1
  have h2k := h2
  have hlt2 : ∀ x ∈ p2, x.block < W.heap.size := fun x hx => by simpa using hW'.lt x (by simp [hx])
  obtain ⟨A2, n2, cap2, rfl, w2, u2⟩ := open_structs Try.underlying45 (by rw [show Try.prog.cellsOf 48 = 2 by kernel_rfl]; decide) (hval 2 45 v2 rfl rfl) h2 hlt2
  clear hA0 hval0 hsz0 hsz
  refine ((fun n ev A m cap W _ _ _ h => roomOver_walk n ev A m cap W (picks_of h)) a0 a1 A2 n2 cap2 W w0 w1 w2 u2).mono fun e W' ⟨he, bel⟩ => ?_
  subst he
  exact ⟨_, rfl, _, _, _, [], _, [], hW', trodAll_mk1 (shut_bool Try.underlying4 _), (trodAll_cons_mk (shut_int Try.underlying3 w0) (trodAll_cons_mk (shut_int Try.underlying3 w1) (trodAll_cons_mk (Below.trod (P := Try.prog) (by kernel_rfl) (by kernel_rfl) (of_decide_eq_true (by kernel_rfl)) h2k bel hlt2) trodAll_mk0))), rfl, bel.frame _, fun h => by cases h⟩
theorem over : Rows.roomOverRow.holds Try.pinned (OpenSpec.ofChange Rows.roomOverSpec) :=
  OpenClaim.holds_of_wide 6 Try.f6 rfl rfl rfl rfl rfl rfl rfl ⟨rfl, rfl, rfl, rfl, rfl⟩ rfl rfl rfl rfl rfl (by kernel_rfl) Try.func6 (by kernel_rfl)
    (of_decide_eq_true (by kernel_rfl)) (by unfold Func.isWrapper; first | (rw [if_pos (by decide +kernel)]; kernel_rfl) | (rw [if_neg (by decide +kernel)]; exact ⟨rfl, rfl⟩))
    (fun os started H enc _ => lifted os started H enc)
theorem proved : Rows.RoomOverSaid := over
end Go.Proofs.Ytkjmnmcekhnkmab.roomOver
namespace Go.Proofs.Ytkjmnmcekhnkmab
/-- The row, under a short name, for the claim. -/
theorem roomOver_holds : Rows.RoomOverSaid := roomOver.proved
#print axioms roomOver_holds
end Go.Proofs.Ytkjmnmcekhnkmab
