/- RoomOver's memory: the processes' row, the published positions, and the looks; what each store does to them. -/
import Derived.Test.YtkjmnmcekhnkmabRoomO
import Derived.Test.YtkjmnmcekhnkmabRoomB
import Derived.OwnWalk
import Derived.Carry
namespace Go.Proofs.Ytkjmnmcekhnkmab
open Go.RowKit
set_option linter.unusedSimpArgs false
set_option linter.unusedVariables false

/-- What lies in memory between two turns. -/
structure OverAt (w : World) (base gu gp n : Nat) (pub : List Int) (us : List Us) (gs : Nat → Nat) : Prop where
  lp : pub.length = n
  lu : us.length = n
  au : ∀ (j : Nat) (u : Us), us[j]? = some u → w.cell? ⟨gu, j * 3, none⟩ = some (.int .i64 u.pos) ∧ w.cell? ⟨gu, j * 3 + 1, none⟩ = some (.int .i64 u.does) ∧
    ∃ v, w.cell? ⟨gu, j * 3 + 2, none⟩ = some v ∧ (u.does = 1 → v = .pointer (some ⟨gs j, 0, none⟩))
  ap : ∀ j, j < n → w.cell? ⟨gp, j, none⟩ = some (.int .i64 (pub.getD j 0))
  fu : ∀ o, w.frozen? ⟨gu, o, none⟩ = false
  fp : ∀ o, w.frozen? ⟨gp, o, none⟩ = false
  lk : ∀ (j : Nat) (u : Us), us[j]? = some u → u.does = 1 → LookAt w (gs j) n u.rd ∧ gs j ≠ gu ∧ gs j ≠ gp ∧ base ≤ gs j ∧ gs j < w.heap.size
  inj : ∀ (i j : Nat) (u v : Us), us[i]? = some u → us[j]? = some v → u.does = 1 → v.does = 1 → i ≠ j → gs i ≠ gs j
  ne : gu ≠ gp
  bu : base ≤ gu
  bp : base ≤ gp
  su : gu < w.heap.size
  sp : gp < w.heap.size

theorem OverAt.moved {w w' : World} {base gu gp n : Nat} {pub : List Int} {us : List Us} {gs : Nat → Nat} (h : OverAt w base gu gp n pub us gs)
    (hc : ∀ g o, g < w.heap.size → w'.cell? ⟨g, o, none⟩ = w.cell? ⟨g, o, none⟩) (hf : ∀ g o, g < w.heap.size → w'.frozen? ⟨g, o, none⟩ = w.frozen? ⟨g, o, none⟩) (hs : w.heap.size ≤ w'.heap.size) :
    OverAt w' base gu gp n pub us gs := by
  refine ⟨h.lp, h.lu, fun j u hu => ?_, fun j hj => (hc _ _ h.sp).trans (h.ap j hj), fun o => (hf _ _ h.su).trans (h.fu o), fun o => (hf _ _ h.sp).trans (h.fp o), fun j u hu hd => ?_, h.inj, h.ne, h.bu, h.bp, Nat.lt_of_lt_of_le h.su hs, Nat.lt_of_lt_of_le h.sp hs⟩
  · obtain ⟨a, b, v, c, d⟩ := h.au j u hu
    exact ⟨(hc _ _ h.su).trans a, (hc _ _ h.su).trans b, v, (hc _ _ h.su).trans c, d⟩
  · obtain ⟨a, b, c, d, e⟩ := h.lk j u hu hd
    exact ⟨a.same (fun o => hc _ _ e) (fun o => hf _ _ e), b, c, d, by omega⟩

theorem OverAt.below {w w' : World} {base gu gp n : Nat} {pub : List Int} {us : List Us} {gs : Nat → Nat} (h : OverAt w base gu gp n pub us gs) (hb : Below w.heap.size w w') : OverAt w' base gu gp n pub us gs :=
  h.moved (fun g o hg => hb.cell (p := ⟨g, o, none⟩) hg) (fun g o hg => hb.frozen (p := ⟨g, o, none⟩) hg) hb.size

theorem OverAt.drewN {w : World} {base gu gp n : Nat} {pub : List Int} {us : List Us} {gs : Nat → Nat} (h : OverAt w base gu gp n pub us gs) (k : Nat) : OverAt (w.drewN k) base gu gp n pub us gs :=
  h.moved (fun g o _ => by simp) (fun g o _ => by simp) (by simp)

/-- A store into the processes' row: one process's cell. -/
theorem OverAt.putU {w : World} {base gu gp n : Nat} {pub : List Int} {us : List Us} {gs : Nat → Nat} (h : OverAt w base gu gp n pub us gs) {p : Nat} {u u' : Us} (hu : us[p]? = some u) (o : Nat) (ho : o < 3) (v : Value) (gs' : Nat → Nat)
    (hg : ∀ j, j ≠ p → gs' j = gs j)
    (c0 : (w.setCell ⟨gu, p * 3 + o, none⟩ v).cell? ⟨gu, p * 3, none⟩ = some (.int .i64 u'.pos))
    (c1 : (w.setCell ⟨gu, p * 3 + o, none⟩ v).cell? ⟨gu, p * 3 + 1, none⟩ = some (.int .i64 u'.does))
    (c2 : ∃ x, (w.setCell ⟨gu, p * 3 + o, none⟩ v).cell? ⟨gu, p * 3 + 2, none⟩ = some x ∧ (u'.does = 1 → x = .pointer (some ⟨gs' p, 0, none⟩)))
    (c3 : u'.does = 1 → LookAt w (gs' p) n u'.rd ∧ gs' p ≠ gu ∧ gs' p ≠ gp ∧ base ≤ gs' p ∧ gs' p < w.heap.size ∧ ∀ (j : Nat) (x : Us), j ≠ p → us[j]? = some x → x.does = 1 → gs' p ≠ gs j) :
    OverAt (w.setCell ⟨gu, p * 3 + o, none⟩ v) base gu gp n pub (us.set p u') gs' := by
  have far : ∀ g q, g ≠ gu → (w.setCell ⟨gu, p * 3 + o, none⟩ v).cell? ⟨g, q, none⟩ = w.cell? ⟨g, q, none⟩ := fun g q e => World.cell?_setCell_other _ _ _ _ (by intro e'; injection e' with e1; omega)
  have fz : ∀ q, (w.setCell ⟨gu, p * 3 + o, none⟩ v).frozen? q = w.frozen? q := fun q => by rw [World.frozen?_setCell]
  have sz : (w.setCell ⟨gu, p * 3 + o, none⟩ v).heap.size = w.heap.size := by simp
  refine ⟨h.lp, by rw [List.length_set]; exact h.lu, fun j x hx => ?_, fun j hj => (far _ _ (fun e => h.ne e.symm)).trans (h.ap j hj), fun q => (fz _).trans (h.fu q), fun q => (fz _).trans (h.fp q), fun j x hx hd => ?_, fun i j x y hx hy dx dy hij => ?_, h.ne, h.bu, h.bp, by rw [sz]; exact h.su, by rw [sz]; exact h.sp⟩
  · rcases at_set hx with ⟨rfl, rfl⟩ | ⟨e, hx⟩
    · exact ⟨c0, c1, c2⟩
    · obtain ⟨a, b, y, c, d⟩ := h.au j x hx
      have ot : ∀ q, q < 3 → (w.setCell ⟨gu, p * 3 + o, none⟩ v).cell? ⟨gu, j * 3 + q, none⟩ = w.cell? ⟨gu, j * 3 + q, none⟩ := fun q hq => World.cell?_setCell_other _ _ _ _ (by intro e'; injection e' with e1 e2; omega)
      exact ⟨(ot 0 (by omega)).trans a, (ot 1 (by omega)).trans b, y, (ot 2 (by omega)).trans c, by rw [hg j e]; exact d⟩
  · rcases at_set hx with ⟨rfl, rfl⟩ | ⟨e, hx⟩
    · obtain ⟨a, b, c, d, f, -⟩ := c3 hd
      exact ⟨a.same (fun q => far _ _ b) (fun q => fz _), b, c, d, by rw [sz]; exact f⟩
    · obtain ⟨a, b, c, d, f⟩ := h.lk j x hx hd
      rw [hg j e]
      exact ⟨a.same (fun q => far _ _ b) (fun q => fz _), b, c, d, by rw [sz]; exact f⟩
  · rcases at_set hx with ⟨rfl, rfl⟩ | ⟨e, hx'⟩
    · rcases at_set hy with ⟨rfl, rfl⟩ | ⟨e2, hy'⟩
      · exact absurd rfl hij
      · rw [hg j e2]; exact (c3 dx).2.2.2.2.2 j y e2 hy' dy
    · rcases at_set hy with ⟨rfl, rfl⟩ | ⟨e2, hy'⟩
      · rw [hg i e]; exact fun e3 => (c3 dy).2.2.2.2.2 i x e hx' dx e3.symm
      · rw [hg i e, hg j e2]; exact h.inj i j x y hx' hy' dx dy hij

/-- Where a process stands is stored. -/
theorem OverAt.putPos {w : World} {base gu gp n : Nat} {pub : List Int} {us : List Us} {gs : Nat → Nat} (h : OverAt w base gu gp n pub us gs) {p : Nat} {u : Us} (hu : us[p]? = some u) (hd : u.does ≠ 1) (x : Int) (r : List Int) :
    OverAt (w.setCell ⟨gu, p * 3, none⟩ (.int .i64 x)) base gu gp n pub (us.set p ⟨x, u.does, r⟩) gs := by
  obtain ⟨a, b, v, c, d⟩ := h.au p u hu
  have ot : ∀ q, q ≠ p * 3 → (w.setCell ⟨gu, p * 3, none⟩ (.int .i64 x)).cell? ⟨gu, q, none⟩ = w.cell? ⟨gu, q, none⟩ := fun q hq => World.cell?_setCell_other _ _ _ _ (by intro e'; injection e' with e1 e2; omega)
  exact h.putU hu 0 (by omega) (.int .i64 x) gs (fun _ _ => rfl) (World.cell?_setCell_same' _ _ _ (by rw [Nat.add_zero, a]; rfl)) ((ot _ (by omega)).trans b) ⟨v, (ot _ (by omega)).trans c, fun e => absurd e hd⟩ (fun e => absurd e hd)

/-- What a process does is stored: nothing, or that it may add. -/
theorem OverAt.putDoes {w : World} {base gu gp n : Nat} {pub : List Int} {us : List Us} {gs : Nat → Nat} (h : OverAt w base gu gp n pub us gs) {p : Nat} {u : Us} (hu : us[p]? = some u) (x : Nat) (hd : x ≠ 1) (r : List Int) :
    OverAt (w.setCell ⟨gu, p * 3 + 1, none⟩ (.int .i64 x)) base gu gp n pub (us.set p ⟨u.pos, x, r⟩) gs := by
  obtain ⟨a, b, v, c, d⟩ := h.au p u hu
  have ot : ∀ q, q ≠ p * 3 + 1 → (w.setCell ⟨gu, p * 3 + 1, none⟩ (.int .i64 x)).cell? ⟨gu, q, none⟩ = w.cell? ⟨gu, q, none⟩ := fun q hq => World.cell?_setCell_other _ _ _ _ (by intro e'; injection e' with e1 e2; omega)
  exact h.putU hu 1 (by omega) (.int .i64 x) gs (fun _ _ => rfl) ((ot _ (by omega)).trans a) (World.cell?_setCell_same' _ _ _ (by rw [b]; rfl)) ⟨v, (ot _ (by omega)).trans c, fun e => absurd e hd⟩ (fun e => absurd e hd)

/-- A look is laid under a process that does nothing. -/
theorem OverAt.putLook {w : World} {base gu gp n : Nat} {pub : List Int} {us : List Us} {gs : Nat → Nat} (h : OverAt w base gu gp n pub us gs) {p : Nat} {u : Us} (hu : us[p]? = some u) (hd : u.does ≠ 1) (g : Nat) :
    OverAt (w.setCell ⟨gu, p * 3 + 2, none⟩ (.pointer (some ⟨g, 0, none⟩))) base gu gp n pub us (fun j => if j = p then g else gs j) ∧
      (w.setCell ⟨gu, p * 3 + 2, none⟩ (.pointer (some ⟨g, 0, none⟩))).cell? ⟨gu, p * 3 + 2, none⟩ = some (.pointer (some ⟨g, 0, none⟩)) := by
  obtain ⟨a, b, v, c, d⟩ := h.au p u hu
  have ot : ∀ q, q ≠ p * 3 + 2 → (w.setCell ⟨gu, p * 3 + 2, none⟩ (.pointer (some ⟨g, 0, none⟩))).cell? ⟨gu, q, none⟩ = w.cell? ⟨gu, q, none⟩ := fun q hq => World.cell?_setCell_other _ _ _ _ (by intro e'; injection e' with e1 e2; omega)
  have new := World.cell?_setCell_same' w ⟨gu, p * 3 + 2, none⟩ (.pointer (some ⟨g, 0, none⟩)) (by rw [c]; rfl)
  have e := h.putU hu 2 (by omega) (.pointer (some ⟨g, 0, none⟩)) (fun j => if j = p then g else gs j) (u' := u) (fun j hj => if_neg hj) ((ot _ (by omega)).trans a) ((ot _ (by omega)).trans b) ⟨_, new, fun e => absurd e hd⟩ (fun e => absurd e hd)
  have es : us.set p u = us := by
    obtain ⟨hp, e⟩ := List.getElem?_eq_some_iff.1 hu
    subst e
    exact List.set_getElem_self hp
  rw [es] at e
  exact ⟨e, new⟩

/-- A look begins. -/
theorem OverAt.putOne {w : World} {base gu gp n : Nat} {pub : List Int} {us : List Us} {gs : Nat → Nat} (h : OverAt w base gu gp n pub us gs) {p : Nat} {u : Us} (hu : us[p]? = some u)
    (hc : w.cell? ⟨gu, p * 3 + 2, none⟩ = some (.pointer (some ⟨gs p, 0, none⟩))) (hl : LookAt w (gs p) n []) (h1 : gs p ≠ gu) (h2 : gs p ≠ gp) (h3 : base ≤ gs p) (h4 : gs p < w.heap.size)
    (h5 : ∀ (j : Nat) (x : Us), j ≠ p → us[j]? = some x → x.does = 1 → gs p ≠ gs j) :
    OverAt (w.setCell ⟨gu, p * 3 + 1, none⟩ (.int .i64 1)) base gu gp n pub (us.set p ⟨u.pos, 1, []⟩) gs := by
  obtain ⟨a, b, v, c, d⟩ := h.au p u hu
  have ot : ∀ q, q ≠ p * 3 + 1 → (w.setCell ⟨gu, p * 3 + 1, none⟩ (.int .i64 1)).cell? ⟨gu, q, none⟩ = w.cell? ⟨gu, q, none⟩ := fun q hq => World.cell?_setCell_other _ _ _ _ (by intro e'; injection e' with e1 e2; omega)
  exact h.putU hu 1 (by omega) (.int .i64 1) gs (fun _ _ => rfl) ((ot _ (by omega)).trans a) (World.cell?_setCell_same' _ _ _ (by rw [b]; rfl)) ⟨_, (ot _ (by omega)).trans hc, fun _ => rfl⟩ (fun _ => ⟨hl, h1, h2, h3, h4, h5⟩)

/-- A look that has just been made is laid under a process, and begins. -/
theorem OverAt.begun {w : World} {base gu gp n : Nat} {pub : List Int} {us : List Us} {gs : Nat → Nat} (h : OverAt w base gu gp n pub us gs) {p : Nat} {u : Us} (hu : us[p]? = some u) (hd : u.does ≠ 1) (g : Nat)
    (hl : LookAt w g n []) (h1 : g ≠ gu) (h2 : g ≠ gp) (h3 : base ≤ g) (h4 : g < w.heap.size) (h5 : ∀ (j : Nat) (x : Us), us[j]? = some x → x.does = 1 → gs j ≠ g) :
    OverAt ((w.setCell ⟨gu, p * 3 + 2, none⟩ (.pointer (some ⟨g, 0, none⟩))).setCell ⟨gu, p * 3 + 1, none⟩ (.int .i64 1)) base gu gp n pub (us.set p ⟨u.pos, 1, []⟩) (fun j => if j = p then g else gs j) := by
  obtain ⟨e, c⟩ := h.putLook hu hd g
  have eg : (if p = p then g else gs p) = g := if_pos rfl
  refine e.putOne hu (by rw [eg]; exact c) ?_ (by rw [eg]; exact h1) (by rw [eg]; exact h2) (by rw [eg]; exact h3) (by rw [eg]; simpa using h4) (fun j x hj hx hdx => ?_)
  · rw [eg]
    exact hl.same (fun q => World.cell?_setCell_other _ _ _ _ (by intro e'; injection e' with e1; omega)) (fun q => by rw [World.frozen?_setCell])
  · rw [eg]
    show g ≠ if j = p then g else gs j
    rw [if_neg hj]
    exact fun e => h5 j x hx hdx e.symm

/-- A position is published. -/
theorem OverAt.putPub {w : World} {base gu gp n : Nat} {pub : List Int} {us : List Us} {gs : Nat → Nat} (h : OverAt w base gu gp n pub us gs) {p : Nat} (hp : p < n) (x : Int) :
    OverAt (w.setCell ⟨gp, p, none⟩ (.int .i64 x)) base gu gp n (pub.set p x) us gs := by
  have far : ∀ g q, g ≠ gp → (w.setCell ⟨gp, p, none⟩ (.int .i64 x)).cell? ⟨g, q, none⟩ = w.cell? ⟨g, q, none⟩ := fun g q e => World.cell?_setCell_other _ _ _ _ (by intro e'; injection e' with e1; omega)
  have fz : ∀ q, (w.setCell ⟨gp, p, none⟩ (.int .i64 x)).frozen? q = w.frozen? q := fun q => by rw [World.frozen?_setCell]
  have sz : (w.setCell ⟨gp, p, none⟩ (.int .i64 x)).heap.size = w.heap.size := by simp
  have hl := h.lp
  refine ⟨by rw [List.length_set]; exact h.lp, h.lu, fun j u hu => ?_, fun j hj => ?_, fun q => (fz _).trans (h.fu q), fun q => (fz _).trans (h.fp q), fun j u hu hd => ?_, h.inj, h.ne, h.bu, h.bp, by rw [sz]; exact h.su, by rw [sz]; exact h.sp⟩
  · obtain ⟨a, b, v, c, d⟩ := h.au j u hu
    exact ⟨(far _ _ h.ne).trans a, (far _ _ h.ne).trans b, v, (far _ _ h.ne).trans c, d⟩
  · rw [getD_set _ _ _ _ (by omega)]
    by_cases e : j = p
    · subst e
      rw [if_pos rfl]
      exact World.cell?_setCell_same' _ _ _ (by rw [h.ap j hj]; rfl)
    · rw [if_neg e, World.cell?_setCell_other _ _ _ _ (by intro e'; injection e' with e1 e2; omega)]
      exact h.ap j hj
  · obtain ⟨a, b, c, d, f⟩ := h.lk j u hu hd
    exact ⟨a.same (fun q => far _ _ c) (fun q => fz _), b, c, d, by rw [sz]; exact f⟩

/-- A look reads a position. -/
theorem OverAt.putRead {w : World} {base gu gp n : Nat} {pub : List Int} {us : List Us} {gs : Nat → Nat} (h : OverAt w base gu gp n pub us gs) {p : Nat} {u : Us} (hu : us[p]? = some u) (hd : u.does = 1) (hq : u.rd.length ≠ n) (x : Int) (k : Nat) :
    OverAt (((w.drewN k).setCell ⟨gs p, 2 + u.rd.length, none⟩ (.int .i64 x)).setCell ⟨gs p, 1, none⟩ (.int .i64 (u.rd.length + 1))) base gu gp n pub (us.set p ⟨u.pos, 1, u.rd ++ [x]⟩) gs := by
  obtain ⟨l1, l2, l3, l4, l5⟩ := h.lk p u hu hd
  have hnew := l1.read (p := x) hq k
  have far : ∀ g q, g ≠ gs p → (((w.drewN k).setCell ⟨gs p, 2 + u.rd.length, none⟩ (.int .i64 x)).setCell ⟨gs p, 1, none⟩ (.int .i64 (u.rd.length + 1))).cell? ⟨g, q, none⟩ = w.cell? ⟨g, q, none⟩ := by
    intro g q e
    rw [World.cell?_setCell_other _ _ _ _ (by intro e'; injection e' with e1; omega), World.cell?_setCell_other _ _ _ _ (by intro e'; injection e' with e1; omega)]
    simp
  have fz : ∀ q, (((w.drewN k).setCell ⟨gs p, 2 + u.rd.length, none⟩ (.int .i64 x)).setCell ⟨gs p, 1, none⟩ (.int .i64 (u.rd.length + 1))).frozen? q = w.frozen? q := fun q => by rw [World.frozen?_setCell, World.frozen?_setCell]; simp
  have sz : (((w.drewN k).setCell ⟨gs p, 2 + u.rd.length, none⟩ (.int .i64 x)).setCell ⟨gs p, 1, none⟩ (.int .i64 (u.rd.length + 1))).heap.size = w.heap.size := by simp
  refine ⟨h.lp, by rw [List.length_set]; exact h.lu, fun j y hy => ?_, fun j hj => (far _ _ (fun e => l3 e.symm)).trans (h.ap j hj), fun q => (fz _).trans (h.fu q), fun q => (fz _).trans (h.fp q), fun j y hy hdy => ?_, fun i j y z hy hz dy dz hij => ?_, h.ne, h.bu, h.bp, by rw [sz]; exact h.su, by rw [sz]; exact h.sp⟩
  · have go : ∀ q, (((w.drewN k).setCell ⟨gs p, 2 + u.rd.length, none⟩ (.int .i64 x)).setCell ⟨gs p, 1, none⟩ (.int .i64 (u.rd.length + 1))).cell? ⟨gu, q, none⟩ = w.cell? ⟨gu, q, none⟩ := fun q => far _ _ (fun e => l2 e.symm)
    rcases at_set hy with ⟨rfl, rfl⟩ | ⟨e, hy⟩
    · obtain ⟨a, b, v, c, d⟩ := h.au j u hu
      exact ⟨(go _).trans a, by rw [go, b, hd], v, (go _).trans c, fun _ => d hd⟩
    · obtain ⟨a, b, v, c, d⟩ := h.au j y hy
      exact ⟨(go _).trans a, (go _).trans b, v, (go _).trans c, d⟩
  · rcases at_set hy with ⟨rfl, rfl⟩ | ⟨e, hy⟩
    · exact ⟨hnew, l2, l3, l4, by rw [sz]; exact l5⟩
    · obtain ⟨a, b, c, d, f⟩ := h.lk j y hy hdy
      have e2 := h.inj j p y u hy hu hdy hd e
      exact ⟨a.same (fun q => far _ _ e2) (fun q => fz _), b, c, d, by rw [sz]; exact f⟩
  · have back : ∀ (i : Nat) (y : Us), (us.set p ⟨u.pos, 1, u.rd ++ [x]⟩)[i]? = some y → y.does = 1 → ∃ y', us[i]? = some y' ∧ y'.does = 1 := by
      intro i y hy dy
      rcases at_set hy with ⟨rfl, rfl⟩ | ⟨e, hy⟩
      · exact ⟨u, hu, hd⟩
      · exact ⟨y, hy, dy⟩
    obtain ⟨y', y1, y2⟩ := back i y hy dy
    obtain ⟨z', z1, z2⟩ := back j z hz dz
    exact h.inj i j y' z' y1 z1 y2 z2 hij

end Go.Proofs.Ytkjmnmcekhnkmab
