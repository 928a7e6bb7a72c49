/- MemPlays: the document's New. -/
import Derived.Test.YthllfeogchbihacMemZ
namespace Go.Proofs.Ythllfeogchbihac
open Go.RowKit
set_option linter.unusedSimpArgs false
set_option linter.unusedVariables false
theorem info68 : (Try.prog.info? 68).map (fun i => (i.zero, i.size, i.bytes)) = some (some (.agg #[.int .i64 0, .int .u8 0, .int .i64 0, .slice none 0 0, .slice none 0 0]), 5, 72) := by kernel_rfl
theorem made_catn {α : Type} (m : Nat) (hm : 0 < m) (f : α → List Value) (hf : ∀ x, (f x).length = m) (z : α) (n : Nat) (a : Array Value) (ha : a.toList = f z) : (madeCells a (n * m)).toList = (List.replicate n z).flatMap f := by
  have hs : a.size = m := by rw [← Array.length_toList, ha, hf]
  apply List.ext_getElem?
  intro j
  by_cases hj : j < n * m
  · have e : j = (j / m) * m + j % m := by have := Nat.div_add_mod j m; rw [Nat.mul_comm] at this; omega
    have hq : j % m < m := Nat.mod_lt _ hm
    have hd : j / m < n := Nat.div_lt_of_lt_mul (by rw [Nat.mul_comm]; exact hj)
    have hi : j / m < (List.replicate n z).length := by rw [List.length_replicate]; exact hd
    have hr : ((List.replicate n z).flatMap f)[j]? = (f z)[j % m]? := by
      have := catn_get m f hf (List.replicate n z) (j / m) hi (j % m) hq
      rw [← e] at this
      rw [this, List.getElem_replicate]
    rw [hr, ← ha, List.getElem?_eq_getElem (by rw [Array.length_toList, size_madeCells]; exact hj), List.getElem?_eq_getElem (by rw [Array.length_toList, hs]; exact hq)]
    simp only [madeCells, Array.getElem_toList, Array.getElem_map, Array.getElem_range, hs]
    rw [getElem!_pos a (j % m) (by omega)]
  · rw [List.getElem?_eq_none (by rw [Array.length_toList, size_madeCells]; omega), List.getElem?_eq_none (by rw [catn_len m f hf, List.length_replicate]; omega)]
def cA (n : Nat) : Array Value := madeCells #[.int .i64 0, .int .u8 0, .int .i64 0, .slice none 0 0, .slice none 0 0] (n * 5)
def cB (n : Nat) : Array Value := madeCells #[.int .i64 0] (n * 1)
def cD (n : Nat) : Array Value := madeCells #[.int .i64 0, .int .i64 0, .int .i64 0, .int .u8 0, .int .i64 0, .slice none 0 0, .slice none 0 0] (n * 7)
theorem cB_map {α : Type} (n : Nat) (z : α) (f : α → Value) (hz : f z = .int .i64 0) : (cB n).toList = (List.replicate n z).map f := by
  have h := made_catn 1 (by decide) (fun x => [f x]) (fun _ => rfl) z n #[.int .i64 0] (by show [_] = [_]; rw [hz])
  unfold cB
  rw [h]
  have g : ∀ l : List α, l.flatMap (fun x => [f x]) = l.map f := by
    intro l
    induction l with
    | nil => rfl
    | cons x l ih => rw [List.flatMap_cons, ih]; rfl
  exact g _
/-- Which of the four arrays a block is. -/
def Pick4 (s b : Nat) (c a1 a2 a3 a4 : Array Value) : Prop := (b = s + 1 ∧ a1 = c) ∨ (b = s + 1 + 1 ∧ a2 = c) ∨ (b = s + 1 + 1 + 1 ∧ a3 = c) ∨ (b = s + 1 + 1 + 1 + 1 ∧ a4 = c)
theorem rnew_fin {w X : World} {p q : Int} {A : Option Addr} {n c : Nat} {ag bg cg dg : Nat} (hp1 : 1 ≤ p) (hp2 : p ≤ 64) (hq1 : 1 ≤ q) (hq2 : q ≤ 64) {a1 a2 a3 a4 : Array Value} {T1 T2 T3 T4 : TypeId}
    (hX : X = ((((((w.alloc (.cells #[.slice none 0 0, .slice none 0 0, .slice none 0 0, .int .i64 0, .slice none 0 0, .slice A n c] 35)).alloc (.cells a1 T1)).alloc (.cells a2 T2)).alloc (.cells a3 T3)).alloc (.cells a4 T4)).alloc (.cells #[.slice (some ⟨ag, 0, none⟩) p.toNat p.toNat, .slice (some ⟨bg, 0, none⟩) p.toNat p.toNat, .slice (some ⟨cg, 0, none⟩) p.toNat p.toNat, .slice (some ⟨dg, 0, none⟩) (2 * q + 2 * p).toNat (2 * q + 2 * p).toNat, .int .i64 0, .slice none 0 0, .slice none 0 0, .slice none 0 0, .int .i64 0, .slice none 0 0, .slice A n c] 87)).drew)
    (hag : Pick4 w.heap.size ag (cA p.toNat) a1 a2 a3 a4) (hbg : Pick4 w.heap.size bg (cB p.toNat) a1 a2 a3 a4) (hcg : Pick4 w.heap.size cg (cB p.toNat) a1 a2 a3 a4) (hdg : Pick4 w.heap.size dg (cD (2 * q + 2 * p).toNat) a1 a2 a3 a4)
    (nd : ag ≠ bg ∧ ag ≠ cg ∧ ag ≠ dg ∧ bg ≠ cg ∧ bg ≠ dg ∧ cg ≠ dg) :
    RAt X (w.heap.size + 1 + 1 + 1 + 1 + 1) ag bg cg dg (newMe p q A n c) ∧ (∀ b, RF (w.heap.size + 1 + 1 + 1 + 1 + 1) ag bg cg dg b → w.heap.size ≤ b) ∧ Below w.heap.size w X := by
  have hb : Below w.heap.size w X := by
    rw [hX]
    exact below_drew (((((((Below.refl _ _).alloc (Nat.le_refl _) _).alloc (by simp) _).alloc (by simp <;> omega) _).alloc (by simp <;> omega) _).alloc (by simp <;> omega) _).alloc (by simp <;> omega) _)
  obtain ⟨w0, hw0⟩ : ∃ w0, w.alloc (.cells #[.slice none 0 0, .slice none 0 0, .slice none 0 0, .int .i64 0, .slice none 0 0, .slice A n c] 35) = w0 := ⟨_, rfl⟩
  have hs0 : w0.heap.size = w.heap.size + 1 := by rw [← hw0, World.size_alloc]
  rw [hw0] at hX
  have k1 : Blk X (w.heap.size + 1) a1.toList := by
    rw [hX, ← hs0]
    exact (((((Blk.new w0 a1 T1).alloc _).alloc _).alloc _).alloc _).drew
  have k2 : Blk X (w.heap.size + 1 + 1) a2.toList := by
    rw [hX]
    have := ((((Blk.new (w0.alloc (.cells a1 T1)) a2 T2).alloc (.cells a3 T3)).alloc (.cells a4 T4)).alloc (.cells #[.slice (some ⟨ag, 0, none⟩) p.toNat p.toNat, .slice (some ⟨bg, 0, none⟩) p.toNat p.toNat, .slice (some ⟨cg, 0, none⟩) p.toNat p.toNat, .slice (some ⟨dg, 0, none⟩) (2 * q + 2 * p).toNat (2 * q + 2 * p).toNat, .int .i64 0, .slice none 0 0, .slice none 0 0, .slice none 0 0, .int .i64 0, .slice none 0 0, .slice A n c] 87)).drew
    rw [World.size_alloc, hs0] at this
    exact this
  have k3 : Blk X (w.heap.size + 1 + 1 + 1) a3.toList := by
    rw [hX]
    have := (((Blk.new ((w0.alloc (.cells a1 T1)).alloc (.cells a2 T2)) a3 T3).alloc (.cells a4 T4)).alloc (.cells #[.slice (some ⟨ag, 0, none⟩) p.toNat p.toNat, .slice (some ⟨bg, 0, none⟩) p.toNat p.toNat, .slice (some ⟨cg, 0, none⟩) p.toNat p.toNat, .slice (some ⟨dg, 0, none⟩) (2 * q + 2 * p).toNat (2 * q + 2 * p).toNat, .int .i64 0, .slice none 0 0, .slice none 0 0, .slice none 0 0, .int .i64 0, .slice none 0 0, .slice A n c] 87)).drew
    rw [World.size_alloc, World.size_alloc, hs0] at this
    exact this
  have k4 : Blk X (w.heap.size + 1 + 1 + 1 + 1) a4.toList := by
    rw [hX]
    have := ((Blk.new (((w0.alloc (.cells a1 T1)).alloc (.cells a2 T2)).alloc (.cells a3 T3)) a4 T4).alloc (.cells #[.slice (some ⟨ag, 0, none⟩) p.toNat p.toNat, .slice (some ⟨bg, 0, none⟩) p.toNat p.toNat, .slice (some ⟨cg, 0, none⟩) p.toNat p.toNat, .slice (some ⟨dg, 0, none⟩) (2 * q + 2 * p).toNat (2 * q + 2 * p).toNat, .int .i64 0, .slice none 0 0, .slice none 0 0, .slice none 0 0, .int .i64 0, .slice none 0 0, .slice A n c] 87)).drew
    rw [World.size_alloc, World.size_alloc, World.size_alloc, hs0] at this
    exact this
  have k5 : Blk X (w.heap.size + 1 + 1 + 1 + 1 + 1) [.slice (some ⟨ag, 0, none⟩) p.toNat p.toNat, .slice (some ⟨bg, 0, none⟩) p.toNat p.toNat, .slice (some ⟨cg, 0, none⟩) p.toNat p.toNat, .slice (some ⟨dg, 0, none⟩) (2 * q + 2 * p).toNat (2 * q + 2 * p).toNat, .int .i64 0, .slice none 0 0, .slice none 0 0, .slice none 0 0, .int .i64 0, .slice none 0 0, .slice A n c] := by
    rw [hX]
    have := (Blk.new ((((w0.alloc (.cells a1 T1)).alloc (.cells a2 T2)).alloc (.cells a3 T3)).alloc (.cells a4 T4)) #[.slice (some ⟨ag, 0, none⟩) p.toNat p.toNat, .slice (some ⟨bg, 0, none⟩) p.toNat p.toNat, .slice (some ⟨cg, 0, none⟩) p.toNat p.toNat, .slice (some ⟨dg, 0, none⟩) (2 * q + 2 * p).toNat (2 * q + 2 * p).toNat, .int .i64 0, .slice none 0 0, .slice none 0 0, .slice none 0 0, .int .i64 0, .slice none 0 0, .slice A n c] 87).drew
    rw [World.size_alloc, World.size_alloc, World.size_alloc, World.size_alloc, hs0] at this
    exact this
  have pk : ∀ {b : Nat} {c : Array Value}, Pick4 w.heap.size b c a1 a2 a3 a4 → Blk X b c.toList ∧ w.heap.size + 1 ≤ b ∧ b ≤ w.heap.size + 1 + 1 + 1 + 1 := by
    rintro b c (⟨rfl, rfl⟩ | ⟨rfl, rfl⟩ | ⟨rfl, rfl⟩ | ⟨rfl, rfl⟩)
    · exact ⟨k1, by omega, by omega⟩
    · exact ⟨k2, by omega, by omega⟩
    · exact ⟨k3, by omega, by omega⟩
    · exact ⟨k4, by omega, by omega⟩
  obtain ⟨q1, g1, g1'⟩ := pk hag
  obtain ⟨q2, g2, g2'⟩ := pk hbg
  obtain ⟨q3, g3, g3'⟩ := pk hcg
  obtain ⟨q4, g4, g4'⟩ := pk hdg
  clear pk k1 k2 k3 k4 hX hag hbg hcg hdg
  refine ⟨⟨?_, ?_, ?_, ?_, ?_, ⟨by omega, by omega, by omega, by omega, nd⟩, ?_, ?_⟩, ?_, hb⟩
  · simpa [newMe, N7.cs] using k5
  · rw [show (cA p.toNat).toList = _ from made_catn 5 (by decide) acs5 (fun _ => rfl) zp p.toNat #[.int .i64 0, .int .u8 0, .int .i64 0, .slice none 0 0, .slice none 0 0] rfl] at q1
    exact q1
  · rw [cB_map p.toNat zp (fun x => .int .i64 x.pos) rfl] at q2
    exact q2
  · rw [cB_map p.toNat zp (fun x => .int .i64 x.st) rfl] at q3
    exact q3
  · rw [show (cD (2 * q + 2 * p).toNat).toList = _ from made_cat S7.cs (fun _ => rfl) zs (2 * q + 2 * p).toNat #[.int .i64 0, .int .i64 0, .int .i64 0, .int .u8 0, .int .i64 0, .slice none 0 0, .slice none 0 0] rfl] at q4
    exact q4
  · simp [newMe]; omega
  · simp [newMe]; omega
  · rintro b (rfl | rfl | rfl | rfl | rfl) <;> omega
def RNewEnd (w : World) (p q : Int) (A : Option Addr) (n c : Nat) (e : Ending) (W' : World) : Prop :=
  (arenaN p q = 0 ∧ e = .returned (.tuple #[.pointer none, .int .i64 2]) ∧ Below w.heap.size w W') ∨
  ((1 ≤ p ∧ p ≤ 64 ∧ 1 ≤ q ∧ q ≤ 64) ∧ ∃ rg ag bg cg dg, e = .returned (.tuple #[.pointer (some ⟨rg, 0, none⟩), .int .i64 0]) ∧ RAt W' rg ag bg cg dg (newMe p q A n c) ∧ (∀ b, RF rg ag bg cg dg b → w.heap.size ≤ b) ∧ Below w.heap.size w W')
set_option maxRecDepth 100000 in
set_option maxHeartbeats 8000000 in
theorem rnew_any (w : World) (p q : Int) (A : Option Addr) (n c : Nat) : Calls Try.prog 15 #[.int .i64 p, .int .i64 q, iagg A n c] w fun e W' => RNewEnd w p q A n c e W' := by
  have hb0 : Below w.heap.size w (w.alloc (.cells #[.slice none 0 0, .slice none 0 0, .slice none 0 0, .int .i64 0, .slice none 0 0, .slice A n c] 35)) := (Below.refl _ _).alloc (Nat.le_refl _) _
  have HA := Lib.hid (rarena_any (w.alloc (.cells #[.slice none 0 0, .slice none 0 0, .slice none 0 0, .int .i64 0, .slice none 0 0, .slice A n c] 35)) p q)
  by_cases h : p < 1 ∨ 64 < p ∨ q < 1 ∨ 64 < q
  · have hz : arenaN p q = 0 := by unfold arenaN; rw [if_pos h]
    rw [hz] at HA
    have HF : Hid (RNewEnd w p q A n c (.returned (.tuple #[.pointer none, .int .i64 2])) (w.alloc (.cells #[.slice none 0 0, .slice none 0 0, .slice none 0 0, .int .i64 0, .slice none 0 0, .slice A n c] 35))) := Lib.hid (.inl ⟨hz, rfl, hb0⟩)
    clear hz hb0 h
    unfold iagg
    go_enter Try.func15, Try.ntmps15
    go_wp2_with fail
    refine HA.out.mono ?_
    rintro e w1 ⟨rfl, rfl⟩
    go_wp2_with fail
    go_ret2
    exact HF.out
  · have hz : arenaN p q = 2 * q + 2 * p := by unfold arenaN; rw [if_neg h]
    rw [hz] at HA
    have hp1 : 1 ≤ p := by omega
    have hp2 : p ≤ 64 := by omega
    have hq1 : 1 ≤ q := by omega
    have hq2 : q ≤ 64 := by omega
    have hk : 2 * q + 2 * p ≤ 256 := by omega
    have hk2 : 4 ≤ 2 * q + 2 * p := by omega
    have hne : ((2 * q + 2 * p == (0 : Int))) = false := by rw [beq_eq_false_iff_ne]; omega
    obtain ⟨j68, ji, jz, js, jb⟩ := fr_parts info68
    obtain ⟨k47, ki, kz, ks, kb⟩ := fr_parts info47
    obtain ⟨i3, ii, iz, is_, ib⟩ := fr_parts info3
    have u85 : Try.prog.underlying 85 = some (.slice 68) := by kernel_rfl
    have u33 : Try.prog.underlying 33 = some (.slice 3) := by kernel_rfl
    have u63 : Try.prog.underlying 63 = some (.slice 47) := by kernel_rfl
    obtain ⟨CA, hCA⟩ : ∃ CA, cA p.toNat = CA := ⟨_, rfl⟩
    obtain ⟨CB, hCB⟩ : ∃ CB, cB p.toNat = CB := ⟨_, rfl⟩
    have m85 : ∀ X : World, (Instr.makeSlice 85 (.int .i64 p) (.int .i64 p)).run Try.prog X = .ok (.slice (some ⟨X.heap.size, 0, none⟩) p.toNat p.toNat) (X.alloc (.cells CA 68)) := fun X => by
      have := run_make (P := Try.prog) X 85 68 j68 _ u85 ji jz .i64 .i64 p p (by omega) (Int.le_refl _) (by rw [jb]; omega) (by omega)
      rw [js] at this
      rw [← hCA]
      exact this
    have m33 : ∀ X : World, (Instr.makeSlice 33 (.int .i64 p) (.int .i64 p)).run Try.prog X = .ok (.slice (some ⟨X.heap.size, 0, none⟩) p.toNat p.toNat) (X.alloc (.cells CB 3)) := fun X => by
      have := run_make (P := Try.prog) X 33 3 i3 _ u33 ii iz .i64 .i64 p p (by omega) (Int.le_refl _) (by rw [ib]; omega) (by omega)
      rw [is_] at this
      rw [← hCB]
      exact this
    have HFIN : Hid (∀ X rg ag bg cg dg, (RAt X rg ag bg cg dg (newMe p q A n c) ∧ (∀ b, RF rg ag bg cg dg b → w.heap.size ≤ b) ∧ Below w.heap.size w X) → RNewEnd w p q A n c (.returned (.tuple #[.pointer (some ⟨rg, 0, none⟩), .int .i64 0])) X) := Lib.hid (fun X rg ag bg cg dg h => .inr ⟨⟨hp1, hp2, hq1, hq2⟩, rg, ag, bg, cg, dg, rfl, h⟩)
    obtain ⟨N, hN⟩ : ∃ N, 2 * q + 2 * p = N := ⟨_, rfl⟩
    obtain ⟨CD, hCD⟩ : ∃ CD, cD N.toNat = CD := ⟨_, rfl⟩
    have HFI2 : Hid (∀ (X : World) (ag bg cg dg : Nat) (a1 a2 a3 a4 : Array Value) (T1 T2 T3 T4 : TypeId),
      X = ((((((w.alloc (.cells #[.slice none 0 0, .slice none 0 0, .slice none 0 0, .int .i64 0, .slice none 0 0, .slice A n c] 35)).alloc (.cells a1 T1)).alloc (.cells a2 T2)).alloc (.cells a3 T3)).alloc (.cells a4 T4)).alloc (.cells #[.slice (some ⟨ag, 0, none⟩) p.toNat p.toNat, .slice (some ⟨bg, 0, none⟩) p.toNat p.toNat, .slice (some ⟨cg, 0, none⟩) p.toNat p.toNat, .slice (some ⟨dg, 0, none⟩) N.toNat N.toNat, .int .i64 0, .slice none 0 0, .slice none 0 0, .slice none 0 0, .int .i64 0, .slice none 0 0, .slice A n c] 87)).drew →
      Pick4 w.heap.size ag CA a1 a2 a3 a4 → Pick4 w.heap.size bg CB a1 a2 a3 a4 → Pick4 w.heap.size cg CB a1 a2 a3 a4 → Pick4 w.heap.size dg CD a1 a2 a3 a4 → (ag ≠ bg ∧ ag ≠ cg ∧ ag ≠ dg ∧ bg ≠ cg ∧ bg ≠ dg ∧ cg ≠ dg) →
      RNewEnd w p q A n c (.returned (.tuple #[.pointer (some ⟨w.heap.size + 1 + 1 + 1 + 1 + 1, 0, none⟩), .int .i64 0])) X) := Lib.hid (fun X ag bg cg dg a1 a2 a3 a4 T1 T2 T3 T4 hX x1 x2 x3 x4 nd => by
      subst hN
      subst hCA hCB hCD
      exact HFIN.out _ _ _ _ _ _ (rnew_fin hp1 hp2 hq1 hq2 hX x1 x2 x3 x4 nd))
    rw [hN] at hk hk2 hne HA
    have m63 : ∀ X : World, (Instr.makeSlice 63 (.int .i64 N) (.int .i64 N)).run Try.prog X = .ok (.slice (some ⟨X.heap.size, 0, none⟩) N.toNat N.toNat) (X.alloc (.cells CD 47)) := fun X => by
      have := run_make (P := Try.prog) X 63 47 k47 _ u63 ki kz .i64 .i64 N N (by omega) (Int.le_refl _) (by rw [kb]; omega) (by omega)
      rw [ks] at this
      rw [← hCD]
      exact this
    clear hz hb0 h hN ji jz js jb ki kz ks kb ii iz is_ ib u85 u33 u63 HFIN hCA hCB hCD
    unfold iagg
    go_enter Try.func15, Try.ntmps15
    go_wp2_with fail
    refine HA.out.mono ?_
    rintro e w1 ⟨rfl, rfl⟩
    go_wp2_with fail
    go_region
    all_goals go_wp2_with fail
    all_goals go_ret2
    all_goals (refine HFI2.out _ _ _ _ _ _ _ _ _ _ _ _ _ rfl ?_ ?_ ?_ ?_ ⟨by omega, by omega, by omega, by omega, by omega, by omega⟩ <;> first | exact .inl ⟨rfl, rfl⟩ | exact .inr (.inl ⟨rfl, rfl⟩) | exact .inr (.inr (.inl ⟨rfl, rfl⟩)) | exact .inr (.inr (.inr ⟨rfl, rfl⟩)) | fail)
#print axioms rnew_any
end Go.Proofs.Ythllfeogchbihac
