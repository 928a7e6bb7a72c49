/- Memories: Arena (of two numbers), New. -/
import Derived.Test.YthllfeogchbihacMemJ
import Derived.Test.YthllfeogchbihacMemG
import Derived.OwnWalk
namespace Go.Proofs.Ythllfeogchbihac
open Go.RowKit
set_option linter.unusedSimpArgs false
set_option linter.unusedVariables false
theorem info93 : (Try.prog.info? 93).map (fun i => (i.zero, i.size, i.bytes)) = some (some (.agg #[.int .i64 0, .int .u8 0, .int .i64 0, .slice none 0 0, .slice none 0 0, .int .i64 0, .int .i64 0]), 7, 88) := by kernel_rfl
theorem info47 : (Try.prog.info? 47).map (fun i => (i.zero, i.size, i.bytes)) = some (some (.agg #[.int .i64 0, .int .i64 0, .int .i64 0, .int .u8 0, .int .i64 0, .slice none 0 0, .slice none 0 0]), 7, 88) := by kernel_rfl
theorem fr_parts {i? : Option TypeInfo} {z : Value} {s b : Nat} (h : i?.map (fun i => (i.zero, i.size, i.bytes)) = some (some z, s, b)) : ∃ i, i? = some i ∧ i.zero = some z ∧ i.size = s ∧ i.bytes = b := by
  cases i? with
  | none => cases h
  | some i => simp at h; exact ⟨i, rfl, h⟩
def arenaN (p q : Int) : Int := if p < 1 ∨ 64 < p ∨ q < 1 ∨ 64 < q then 0 else 2 * q + 2 * p
theorem arena_any (w : World) (p q : Int) : Calls Try.prog 8 #[.int .i64 p, .int .i64 q] w fun e W' => e = .returned (.int .i64 (arenaN p q)) ∧ W' = w := by
  unfold arenaN
  by_cases h1 : p < 1
  · have h2 : ¬ (1 : Int) ≤ p := by omega
    rw [if_pos (.inl h1)]
    go_enter Try.func8, Try.ntmps8
    go_wp2_with fail
    go_ret
    exact ⟨rfl, rfl⟩
  by_cases h2 : 64 < p
  · rw [if_pos (.inr (.inl h2))]
    go_enter Try.func8, Try.ntmps8
    go_wp2_with fail
    go_ret
    exact ⟨rfl, rfl⟩
  by_cases h3 : q < 1
  · rw [if_pos (.inr (.inr (.inl h3)))]
    go_enter Try.func8, Try.ntmps8
    go_wp2_with fail
    go_ret
    exact ⟨rfl, rfl⟩
  by_cases h4 : 64 < q
  · rw [if_pos (.inr (.inr (.inr h4)))]
    go_enter Try.func8, Try.ntmps8
    go_wp2_with fail
    go_ret
    exact ⟨rfl, rfl⟩
  rw [if_neg (by omega)]
  have e1 : wrap64 (2 * q) = 2 * q := by unfold wrap64; omega
  have e2 : wrap64 (2 * p) = 2 * p := by unfold wrap64; omega
  have e3 : wrap64 (2 * q + 2 * p) = 2 * q + 2 * p := by unfold wrap64; omega
  go_enter Try.func8, Try.ntmps8
  go_wp2_with fail
  go_ret
  exact ⟨rfl, rfl⟩
theorem made_cat {α : Type} (f : α → List Value) (hf : ∀ x, (f x).length = 7) (z : α) (n : Nat) (a : Array Value) (ha : a.toList = f z) : (madeCells a (n * 7)).toList = (List.replicate n z).flatMap f := by
  have hs : a.size = 7 := by rw [← Array.length_toList, ha, hf]
  apply List.ext_getElem?
  intro j
  by_cases hj : j < n * 7
  · have e : j = (j / 7) * 7 + j % 7 := by omega
    have hq : j % 7 < 7 := Nat.mod_lt _ (by decide)
    have hi : j / 7 < (List.replicate n z).length := by rw [List.length_replicate]; omega
    have hr : ((List.replicate n z).flatMap f)[j]? = (f z)[j % 7]? := by
      have := cat_get f hf (List.replicate n z) (j / 7) hi (j % 7) hq
      rw [← e] at this
      rw [this, List.getElem_replicate]
    rw [hr, ← ha, List.getElem?_eq_getElem (by rw [Array.length_toList, size_madeCells]; exact hj), List.getElem?_eq_getElem (by rw [Array.length_toList, hs]; exact hq)]
    simp only [madeCells, Array.getElem_toList, Array.getElem_map, Array.getElem_range, hs]
    rw [getElem!_pos a (j % 7) (by omega)]
  · rw [List.getElem?_eq_none (by rw [Array.length_toList, size_madeCells]; omega), List.getElem?_eq_none (by rw [cat_len f hf, List.length_replicate]; omega)]
def iagg (A : Option Addr) (n c : Nat) : Value := .agg #[.slice none 0 0, .slice none 0 0, .slice none 0 0, .int .i64 0, .slice none 0 0, .slice A n c]
def newMe (p q : Int) (A : Option Addr) (n c : Nat) : Me := ⟨List.replicate p.toNat zp, List.replicate (2 * q + 2 * p).toNat zs, ⟨0, A, n, c⟩⟩
theorem new_fin {w X : World} {p q : Int} {A : Option Addr} {n c : Nat} {mg pg sg : Nat} (hp1 : 1 ≤ p) (hp2 : p ≤ 64) (hq1 : 1 ≤ q) (hq2 : q ≤ 64) (hb : Below w.heap.size w X) (g1 : w.heap.size ≤ mg) (g2 : w.heap.size ≤ pg) (g3 : w.heap.size ≤ sg) (n1 : mg ≠ pg) (n2 : mg ≠ sg) (n3 : pg ≠ sg)
    (hm : Blk X mg [.slice (some ⟨pg, 0, none⟩) p.toNat p.toNat, .slice (some ⟨sg, 0, none⟩) (2 * q + 2 * p).toNat (2 * q + 2 * p).toNat, .int .i64 0, .slice none 0 0, .slice none 0 0, .slice none 0 0, .int .i64 0, .slice none 0 0, .slice A n c])
    (hp : Blk X pg (madeCells #[.int .i64 0, .int .u8 0, .int .i64 0, .slice none 0 0, .slice none 0 0, .int .i64 0, .int .i64 0] (p.toNat * 7)).toList)
    (hs : Blk X sg (madeCells #[.int .i64 0, .int .i64 0, .int .i64 0, .int .u8 0, .int .i64 0, .slice none 0 0, .slice none 0 0] ((2 * q + 2 * p).toNat * 7)).toList) :
    MO w X mg (newMe p q A n c) (fun b => b < w.heap.size) := by
  have q1 := made_cat P7.cs (fun _ => rfl) zp p.toNat #[.int .i64 0, .int .u8 0, .int .i64 0, .slice none 0 0, .slice none 0 0, .int .i64 0, .int .i64 0] rfl
  have q2 := made_cat S7.cs (fun _ => rfl) zs (2 * q + 2 * p).toNat #[.int .i64 0, .int .i64 0, .int .i64 0, .int .u8 0, .int .i64 0, .slice none 0 0, .slice none 0 0] rfl
  rw [q1] at hp
  rw [q2] at hs
  refine ⟨⟨pg, sg, ⟨?_, hp, hs, n1, n2, n3, ?_, ?_⟩, g2, g3, fun b hb2 => ⟨Nat.lt_of_lt_of_le hb2 hb.size, ?_⟩⟩, hb, g1⟩
  · simpa [newMe, N7.cs] using hm
  · simp [newMe]; omega
  · simp [newMe]; omega
  · rintro (rfl | rfl | rfl) <;> omega
theorem new_one {w : World} {p q : Int} {A : Option Addr} {n c : Nat} (hp1 : 1 ≤ p) (hp2 : p ≤ 64) (hq1 : 1 ≤ q) (hq2 : q ≤ 64) :
    MO w ((((w.alloc (.cells #[.slice none 0 0, .slice none 0 0, .slice none 0 0, .int .i64 0, .slice none 0 0, .slice A n c] 35)).alloc (.cells (madeCells #[.int .i64 0, .int .u8 0, .int .i64 0, .slice none 0 0, .slice none 0 0, .int .i64 0, .int .i64 0] (p.toNat * 7)) 93)).alloc (.cells (madeCells #[.int .i64 0, .int .i64 0, .int .i64 0, .int .u8 0, .int .i64 0, .slice none 0 0, .slice none 0 0] ((2 * q + 2 * p).toNat * 7)) 47)).alloc (.cells #[.slice (some ⟨w.heap.size + 1, 0, none⟩) p.toNat p.toNat, .slice (some ⟨w.heap.size + 1 + 1, 0, none⟩) (2 * q + 2 * p).toNat (2 * q + 2 * p).toNat, .int .i64 0, .slice none 0 0, .slice none 0 0, .slice none 0 0, .int .i64 0, .slice none 0 0, .slice A n c] 65)).drew (w.heap.size + 1 + 1 + 1) (newMe p q A n c) (fun b => b < w.heap.size) := by
  refine new_fin (pg := w.heap.size + 1) (sg := w.heap.size + 1 + 1) hp1 hp2 hq1 hq2 (below_drew (((((Below.refl _ _).alloc (Nat.le_refl _) _).alloc (by simp) _).alloc (by simp <;> omega) _).alloc (by simp <;> omega) _)) (by omega) (by omega) (by omega) (by omega) (by omega) (by omega) ?_ ?_ ?_
  · have := Blk.new (((w.alloc (.cells #[.slice none 0 0, .slice none 0 0, .slice none 0 0, .int .i64 0, .slice none 0 0, .slice A n c] 35)).alloc (.cells (madeCells #[.int .i64 0, .int .u8 0, .int .i64 0, .slice none 0 0, .slice none 0 0, .int .i64 0, .int .i64 0] (p.toNat * 7)) 93)).alloc (.cells (madeCells #[.int .i64 0, .int .i64 0, .int .i64 0, .int .u8 0, .int .i64 0, .slice none 0 0, .slice none 0 0] ((2 * q + 2 * p).toNat * 7)) 47)) #[.slice (some ⟨w.heap.size + 1, 0, none⟩) p.toNat p.toNat, .slice (some ⟨w.heap.size + 1 + 1, 0, none⟩) (2 * q + 2 * p).toNat (2 * q + 2 * p).toNat, .int .i64 0, .slice none 0 0, .slice none 0 0, .slice none 0 0, .int .i64 0, .slice none 0 0, .slice A n c] 65
    exact Blk.drew (by simpa using this)
  · have := ((Blk.new (w.alloc (.cells #[.slice none 0 0, .slice none 0 0, .slice none 0 0, .int .i64 0, .slice none 0 0, .slice A n c] 35)) (madeCells #[.int .i64 0, .int .u8 0, .int .i64 0, .slice none 0 0, .slice none 0 0, .int .i64 0, .int .i64 0] (p.toNat * 7)) 93).alloc (.cells (madeCells #[.int .i64 0, .int .i64 0, .int .i64 0, .int .u8 0, .int .i64 0, .slice none 0 0, .slice none 0 0] ((2 * q + 2 * p).toNat * 7)) 47)).alloc (.cells #[.slice (some ⟨w.heap.size + 1, 0, none⟩) p.toNat p.toNat, .slice (some ⟨w.heap.size + 1 + 1, 0, none⟩) (2 * q + 2 * p).toNat (2 * q + 2 * p).toNat, .int .i64 0, .slice none 0 0, .slice none 0 0, .slice none 0 0, .int .i64 0, .slice none 0 0, .slice A n c] 65)
    exact Blk.drew (by simpa only [World.size_alloc] using this)
  · have := (Blk.new ((w.alloc (.cells #[.slice none 0 0, .slice none 0 0, .slice none 0 0, .int .i64 0, .slice none 0 0, .slice A n c] 35)).alloc (.cells (madeCells #[.int .i64 0, .int .u8 0, .int .i64 0, .slice none 0 0, .slice none 0 0, .int .i64 0, .int .i64 0] (p.toNat * 7)) 93)) (madeCells #[.int .i64 0, .int .i64 0, .int .i64 0, .int .u8 0, .int .i64 0, .slice none 0 0, .slice none 0 0] ((2 * q + 2 * p).toNat * 7)) 47).alloc (.cells #[.slice (some ⟨w.heap.size + 1, 0, none⟩) p.toNat p.toNat, .slice (some ⟨w.heap.size + 1 + 1, 0, none⟩) (2 * q + 2 * p).toNat (2 * q + 2 * p).toNat, .int .i64 0, .slice none 0 0, .slice none 0 0, .slice none 0 0, .int .i64 0, .slice none 0 0, .slice A n c] 65)
    exact Blk.drew (by simpa only [World.size_alloc] using this)
theorem new_two {w : World} {p q : Int} {A : Option Addr} {n c : Nat} (hp1 : 1 ≤ p) (hp2 : p ≤ 64) (hq1 : 1 ≤ q) (hq2 : q ≤ 64) :
    MO w ((((w.alloc (.cells #[.slice none 0 0, .slice none 0 0, .slice none 0 0, .int .i64 0, .slice none 0 0, .slice A n c] 35)).alloc (.cells (madeCells #[.int .i64 0, .int .i64 0, .int .i64 0, .int .u8 0, .int .i64 0, .slice none 0 0, .slice none 0 0] ((2 * q + 2 * p).toNat * 7)) 47)).alloc (.cells (madeCells #[.int .i64 0, .int .u8 0, .int .i64 0, .slice none 0 0, .slice none 0 0, .int .i64 0, .int .i64 0] (p.toNat * 7)) 93)).alloc (.cells #[.slice (some ⟨w.heap.size + 1 + 1, 0, none⟩) p.toNat p.toNat, .slice (some ⟨w.heap.size + 1, 0, none⟩) (2 * q + 2 * p).toNat (2 * q + 2 * p).toNat, .int .i64 0, .slice none 0 0, .slice none 0 0, .slice none 0 0, .int .i64 0, .slice none 0 0, .slice A n c] 65)).drew (w.heap.size + 1 + 1 + 1) (newMe p q A n c) (fun b => b < w.heap.size) := by
  refine new_fin (pg := w.heap.size + 1 + 1) (sg := w.heap.size + 1) hp1 hp2 hq1 hq2 (below_drew (((((Below.refl _ _).alloc (Nat.le_refl _) _).alloc (by simp) _).alloc (by simp <;> omega) _).alloc (by simp <;> omega) _)) (by omega) (by omega) (by omega) (by omega) (by omega) (by omega) ?_ ?_ ?_
  · have := Blk.new (((w.alloc (.cells #[.slice none 0 0, .slice none 0 0, .slice none 0 0, .int .i64 0, .slice none 0 0, .slice A n c] 35)).alloc (.cells (madeCells #[.int .i64 0, .int .i64 0, .int .i64 0, .int .u8 0, .int .i64 0, .slice none 0 0, .slice none 0 0] ((2 * q + 2 * p).toNat * 7)) 47)).alloc (.cells (madeCells #[.int .i64 0, .int .u8 0, .int .i64 0, .slice none 0 0, .slice none 0 0, .int .i64 0, .int .i64 0] (p.toNat * 7)) 93)) #[.slice (some ⟨w.heap.size + 1 + 1, 0, none⟩) p.toNat p.toNat, .slice (some ⟨w.heap.size + 1, 0, none⟩) (2 * q + 2 * p).toNat (2 * q + 2 * p).toNat, .int .i64 0, .slice none 0 0, .slice none 0 0, .slice none 0 0, .int .i64 0, .slice none 0 0, .slice A n c] 65
    exact Blk.drew (by simpa using this)
  · have := (Blk.new ((w.alloc (.cells #[.slice none 0 0, .slice none 0 0, .slice none 0 0, .int .i64 0, .slice none 0 0, .slice A n c] 35)).alloc (.cells (madeCells #[.int .i64 0, .int .i64 0, .int .i64 0, .int .u8 0, .int .i64 0, .slice none 0 0, .slice none 0 0] ((2 * q + 2 * p).toNat * 7)) 47)) (madeCells #[.int .i64 0, .int .u8 0, .int .i64 0, .slice none 0 0, .slice none 0 0, .int .i64 0, .int .i64 0] (p.toNat * 7)) 93).alloc (.cells #[.slice (some ⟨w.heap.size + 1 + 1, 0, none⟩) p.toNat p.toNat, .slice (some ⟨w.heap.size + 1, 0, none⟩) (2 * q + 2 * p).toNat (2 * q + 2 * p).toNat, .int .i64 0, .slice none 0 0, .slice none 0 0, .slice none 0 0, .int .i64 0, .slice none 0 0, .slice A n c] 65)
    exact Blk.drew (by simpa only [World.size_alloc] using this)
  · have := ((Blk.new (w.alloc (.cells #[.slice none 0 0, .slice none 0 0, .slice none 0 0, .int .i64 0, .slice none 0 0, .slice A n c] 35)) (madeCells #[.int .i64 0, .int .i64 0, .int .i64 0, .int .u8 0, .int .i64 0, .slice none 0 0, .slice none 0 0] ((2 * q + 2 * p).toNat * 7)) 47).alloc (.cells (madeCells #[.int .i64 0, .int .u8 0, .int .i64 0, .slice none 0 0, .slice none 0 0, .int .i64 0, .int .i64 0] (p.toNat * 7)) 93)).alloc (.cells #[.slice (some ⟨w.heap.size + 1 + 1, 0, none⟩) p.toNat p.toNat, .slice (some ⟨w.heap.size + 1, 0, none⟩) (2 * q + 2 * p).toNat (2 * q + 2 * p).toNat, .int .i64 0, .slice none 0 0, .slice none 0 0, .slice none 0 0, .int .i64 0, .slice none 0 0, .slice A n c] 65)
    exact Blk.drew (by simpa only [World.size_alloc] using this)
def NewEnd (w : World) (p q : Int) (A : Option Addr) (n c : Nat) (e : Ending) (W' : World) : Prop :=
  (arenaN p q = 0 ∧ e = .returned (.tuple #[.pointer none, .int .i64 2]) ∧ Below w.heap.size w W') ∨
  ((1 ≤ p ∧ p ≤ 64 ∧ 1 ≤ q ∧ q ≤ 64) ∧ ∃ mg, e = .returned (.tuple #[.pointer (some ⟨mg, 0, none⟩), .int .i64 0]) ∧ MO w W' mg (newMe p q A n c) (fun b => b < w.heap.size))
set_option maxRecDepth 100000 in
set_option maxHeartbeats 2000000 in
theorem new_any (w : World) (p q : Int) (A : Option Addr) (n c : Nat) : Calls Try.prog 9 #[.int .i64 p, .int .i64 q, iagg A n c] w fun e W' => NewEnd w p q A n c e W' := by
  have hb0 : Below w.heap.size w (w.alloc (.cells #[.slice none 0 0, .slice none 0 0, .slice none 0 0, .int .i64 0, .slice none 0 0, .slice A n c] 35)) := (Below.refl _ _).alloc (Nat.le_refl _) _
  have HA := Lib.hid (arena_any (w.alloc (.cells #[.slice none 0 0, .slice none 0 0, .slice none 0 0, .int .i64 0, .slice none 0 0, .slice A n c] 35)) p q)
  by_cases h : p < 1 ∨ 64 < p ∨ q < 1 ∨ 64 < q
  · have hz : arenaN p q = 0 := by unfold arenaN; rw [if_pos h]
    rw [hz] at HA
    have HF : Hid (NewEnd w p q A n c (.returned (.tuple #[.pointer none, .int .i64 2])) (w.alloc (.cells #[.slice none 0 0, .slice none 0 0, .slice none 0 0, .int .i64 0, .slice none 0 0, .slice A n c] 35))) := Lib.hid (.inl ⟨hz, rfl, hb0⟩)
    clear hz hb0 h
    unfold iagg
    go_enter Try.func9, Try.ntmps9
    go_wp2_with fail
    refine HA.out.mono ?_
    rintro e w1 ⟨rfl, rfl⟩
    go_wp2_with fail
    go_ret2
    exact HF.out
  · have hz : arenaN p q = 2 * q + 2 * p := by unfold arenaN; rw [if_neg h]
    rw [hz] at HA
    have hp1 : 1 ≤ p := by omega
    have hp2 : p ≤ 64 := by omega
    have hq1 : 1 ≤ q := by omega
    have hq2 : q ≤ 64 := by omega
    have hk : 2 * q + 2 * p ≤ 256 := by omega
    have hk2 : 4 ≤ 2 * q + 2 * p := by omega
    have hne : ((2 * q + 2 * p == (0 : Int))) = false := by rw [beq_eq_false_iff_ne]; omega
    obtain ⟨j93, ji, jz, js, jb⟩ := fr_parts info93
    obtain ⟨k47, ki, kz, ks, kb⟩ := fr_parts info47
    have u62 : Try.prog.underlying 62 = some (.slice 93) := by kernel_rfl
    have u63 : Try.prog.underlying 63 = some (.slice 47) := by kernel_rfl
    have m62 : ∀ X : World, (Instr.makeSlice 62 (.int .i64 p) (.int .i64 p)).run Try.prog X = .ok (.slice (some ⟨X.heap.size, 0, none⟩) p.toNat p.toNat) (X.alloc (.cells (madeCells #[.int .i64 0, .int .u8 0, .int .i64 0, .slice none 0 0, .slice none 0 0, .int .i64 0, .int .i64 0] (p.toNat * 7)) 93)) := fun X => by
      have := run_make (P := Try.prog) X 62 93 j93 _ u62 ji jz .i64 .i64 p p (by omega) (Int.le_refl _) (by rw [jb]; omega) (by omega)
      rw [js] at this
      exact this
    have HFIN : Hid (∀ X, ∀ mg, MO w X mg (newMe p q A n c) (fun b => b < w.heap.size) → NewEnd w p q A n c (.returned (.tuple #[.pointer (some ⟨mg, 0, none⟩), .int .i64 0])) X) := Lib.hid (fun X mg h => .inr ⟨⟨hp1, hp2, hq1, hq2⟩, mg, rfl, h⟩)
    have HFI2 := Lib.hid (@new_one w p q A n c hp1 hp2 hq1 hq2)
    have HFI3 := Lib.hid (@new_two w p q A n c hp1 hp2 hq1 hq2)
    obtain ⟨N, hN⟩ : ∃ N, 2 * q + 2 * p = N := ⟨_, rfl⟩
    have HN := Lib.hid hN
    rw [hN] at hk hk2 hne HA
    have m63 : ∀ X : World, (Instr.makeSlice 63 (.int .i64 N) (.int .i64 N)).run Try.prog X = .ok (.slice (some ⟨X.heap.size, 0, none⟩) N.toNat N.toNat) (X.alloc (.cells (madeCells #[.int .i64 0, .int .i64 0, .int .i64 0, .int .u8 0, .int .i64 0, .slice none 0 0, .slice none 0 0] (N.toNat * 7)) 47)) := fun X => by
      have := run_make (P := Try.prog) X 63 47 k47 _ u63 ki kz .i64 .i64 N N (by omega) (Int.le_refl _) (by rw [kb]; omega) (by omega)
      rw [ks] at this
      exact this
    clear hz hb0 h hN ji jz js jb ki kz ks kb u62 u63
    unfold iagg
    go_enter Try.func9, Try.ntmps9
    go_wp2_with fail
    refine HA.out.mono ?_
    rintro e w1 ⟨rfl, rfl⟩
    go_wp2_with fail
    go_region
    all_goals go_wp2_with fail
    all_goals go_ret2
    all_goals obtain rfl := HN.out
    · exact HFIN.out _ _ (HFI2.out)
    · exact HFIN.out _ _ (HFI3.out)
end Go.Proofs.Ythllfeogchbihac
