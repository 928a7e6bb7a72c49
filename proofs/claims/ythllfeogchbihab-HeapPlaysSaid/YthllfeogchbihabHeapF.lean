/- Heaps (package heap): New, and Make. -/
import Derived.Test.YthllfeogchbihabHeapE
import Derived.StillTailTactics
import Derived.Deep.RegionLaw
import Derived.Deep.RegionLawGrows
namespace Go.Proofs.Ythllfeogchbihab
open Go.RowKit Go.Shelf
set_option linter.unusedSimpArgs false
set_option linter.unusedVariables false

theorem info2 : (Try.prog.info? 2).map (fun i => (i.zero, i.size, i.bytes)) = some (some (.int .i64 0), 1, 8) := by kernel_rfl
theorem info25 : (Try.prog.info? 25).map (fun i => (i.zero, i.size, i.bytes)) = some (some (.slice none 0 0), 1, 24) := by kernel_rfl
theorem hp_parts {i? : Option TypeInfo} {z : Value} {s b : Nat} (h : i?.map (fun i => (i.zero, i.size, i.bytes)) = some (some z, s, b)) : ∃ i, i? = some i ∧ i.zero = some z ∧ i.size = s ∧ i.bytes = b := by
  cases i? with
  | none => cases h
  | some i => simp at h; exact ⟨i, rfl, h⟩

theorem new_no (n : Int) (w : World) (h : n < 0 ∨ 1024 < n) : Calls Try.prog 12 #[.int .i64 n] w fun e w' => e = .returned (.tuple #[.pointer none, .int .i64 2]) ∧ w' = w := by
  by_cases h1 : n < 0
  · go_enter Try.func12, Try.ntmps12
    go_wp2_with fail
    go_ret2
    exact ⟨rfl, rfl⟩
  · have h2 : 1024 < n := by omega
    go_enter Try.func12, Try.ntmps12
    go_wp2_with fail
    go_ret2
    exact ⟨rfl, rfl⟩

theorem made_one (n : Nat) (j : Nat) (hj : j < n) (z : Array Value) (hz : z.size = 1) : (madeCells z (n * 1)).toList[j]? = some (z[0]!) := by
  unfold madeCells
  rw [hz]
  simp [hj, Nat.mod_one]

/-- What New comes to. -/
def NewHeap (w : World) (n : Nat) (e : Ending) (w' : World) : Prop :=
  ∃ gh gw, e = .returned (.tuple #[.pointer (some ⟨gh, 0, none⟩), .int .i64 0]) ∧ Below w.heap.size w w' ∧ w.heap.size ≤ gw ∧ w.heap.size ≤ gh ∧ gh < w'.heap.size ∧ HeapAt w' gh gw w'.heap.size n [] none 0

theorem new_yes (n : Nat) (w : World) (h2 : n ≤ 1024) : Calls Try.prog 12 #[.int .i64 n] w fun e w' => NewHeap w n e w' := by
  obtain ⟨i2, hi, hz0, hz1, hz2⟩ := hp_parts info2
  have n1 : (n : Int) ≤ 1024 := by omega
  have n0 : (0 : Int) ≤ (n : Int) := by omega
  have hbb : i2.bytes * n ≤ 281474976710656 := by rw [hz2]; omega
  have hbn : n ≤ maxLen := by unfold maxLen; omega
  go_enter Try.func12, Try.ntmps12
  go_wp2_with (first | (refine wpList_make_full _ rfl _ _ 25 rfl w.heap.size 2 i2 (.int .i64 0) 1 Try.underlying25 hi hz0 hz1 .i64 .i64 (n : Int) (n : Int) n rfl rfl rfl rfl hbb hbn (Nat.le_refl _) ?_; intro w2 hown hgrow) | fail)
  go_ret2
  have hlt := hown.lt _ rfl
  have hB2 : Below w.heap.size w w2 := (Below.refl _ _).grown hgrow (Nat.le_refl _) (fun k hk => by cases hk)
  have hlt2 : w.heap.size < w2.heap.size := hlt.2
  have hw2 : Blk w2 w.heap.size ((words n []).map (Value.int .i64)) := by
    refine ⟨fun j v hj => ?_, fun o => hown.frozenAt _, hlt2⟩
    have hw : words n [] = List.replicate n 0 := by simp [words]
    rw [hw, List.getElem?_map, List.getElem?_replicate] at hj
    split at hj
    · rename_i hjn
      rw [hown.cellAt _ (by omega)]
      rw [← hj]
      exact made_one n j hjn _ rfl
    · cases hj
  refine ⟨w2.heap.size, w.heap.size, rfl, hB2.alloc hB2.size _, Nat.le_refl _, by omega, by simp, ?_, hw2.alloc _, h2, by simp, by simp, ?_, by simp, by simp; omega, by omega, Nat.le_refl _⟩
  · exact Blk.new w2 _ _
  · exact World.ownsRow_nil _ _ _ _

theorem make_arg {W : World} {gh gw base room : Nat} {arrs : List (List Int)} {A : Option Addr} {cap : Nat} (h : HeapAt W gh gw base room arrs A cap) (n : Int) (hn : n < 0 ∨ 1024 < n) :
    Calls Try.prog 7 #[.pointer (some ⟨gh, 0, none⟩), .int .i64 n] W fun e W' => e = .returned (.tuple #[.int .i64 0, .int .i64 2]) ∧ Below W.heap.size W W' := by
  have hu := used_at h
  have HU := Lib.hid hu
  have hb := h.hb
  have HBK := Lib.hid hb
  clear hu h hb
  by_cases h1 : n < 0
  · clear hn
    go_enter Try.func7, Try.ntmps7
    go_wp2_with fail
    refine HU.out.mono ?_
    rintro e w1 ⟨rfl, hb⟩
    have c2 : w1.cell? ⟨gh, 2, none⟩ = some (.bool true) := (HBK.out.below hb).c 2 _ rfl
    go_wp2_with fail
    go_ret2
    exact ⟨rfl, hb⟩
  · have h2 : 1024 < n := by omega
    clear hn
    go_enter Try.func7, Try.ntmps7
    go_wp2_with fail
    refine HU.out.mono ?_
    rintro e w1 ⟨rfl, hb⟩
    have c2 : w1.cell? ⟨gh, 2, none⟩ = some (.bool true) := (HBK.out.below hb).c 2 _ rfl
    go_wp2_with fail
    go_ret2
    exact ⟨rfl, hb⟩

theorem make_full {W : World} {gh gw base room : Nat} {arrs : List (List Int)} {A : Option Addr} {cap : Nat} (h : HeapAt W gh gw base room arrs A cap) (n : Nat) (hn : n ≤ 1024) (hf : room < arrs.flatten.length + n) :
    Calls Try.prog 7 #[.pointer (some ⟨gh, 0, none⟩), .int .i64 n] W fun e W' => e = .returned (.tuple #[.int .i64 0, .int .i64 4]) ∧ Below W.heap.size W W' := by
  have hu := used_at h
  have hsm := h.sm
  have hrm := h.rm
  have hb := h.hb
  have HBK := Lib.hid hb
  generalize arrs.flatten.length = L at *
  have HU := Lib.hid hu
  have h1 : (n : Int) ≤ 1024 := by omega
  have h2 : (0 : Int) ≤ (n : Int) := by omega
  have h3 : (room : Int) - (L : Int) < (n : Int) := by omega
  have h4 : (room : Int) ≤ 1024 := by omega
  have h5 : (L : Int) ≤ (room : Int) := by omega
  clear hu h hb hn hf
  go_enter Try.func7, Try.ntmps7
  go_wp2_with fail
  refine HU.out.mono ?_
  rintro e w1 ⟨rfl, hb⟩
  have c2 : w1.cell? ⟨gh, 2, none⟩ = some (.bool true) := (HBK.out.below hb).c 2 _ rfl
  have c0 : w1.cell? ⟨gh, 0, none⟩ = some (.slice (some ⟨gw, 0, none⟩) room room) := (HBK.out.below hb).c 0 _ rfl
  go_wp2_with fail
  go_ret2
  exact ⟨rfl, hb⟩

/-- A row with room takes one cell more. -/
theorem row_push {W : World} {base : Nat} {e : TypeId} {g n cap : Nat} {xs : List Value} (h : W.ownsRow base e 1 (.slice (some ⟨g, 0, none⟩) n cap) n xs) (hc : n < cap) (v : Value) :
    (W.setCell ⟨g, n, none⟩ v).ownsRow base e 1 (.slice (some ⟨g, 0, none⟩) (n + 1) cap) (n + 1) (xs ++ [v]) := by
  obtain ⟨hl, h⟩ := h
  refine ⟨by simp [hl], .inr ?_⟩
  rcases h with ⟨e1, -⟩ | ⟨g', c, cur, e1, hb, hg, h1, h2, h3, h4⟩
  · cases e1
  · injection e1 with e1 e2 e3
    injection e1 with e1
    injection e1 with e1
    subst e1 e3
    refine ⟨g, cap, cur.setIfInBounds n v, rfl, hb, ?_, by omega, h2, by simpa using h3, ?_⟩
    · simp [World.setCell, Array.getElem?_modify, hg]
    · simp only [Nat.mul_one] at h3 h4 ⊢
      rw [Array.toList_setIfInBounds, List.take_succ_eq_append_getElem (by simp; omega), List.getElem_set_self, List.take_set_of_le (Nat.le_refl _), h4]

/-- What Make comes to, where there is room. -/
def MadeArr (W : World) (gh gw base room : Nat) (arrs : List (List Int)) (A : Option Addr) (n : Nat) (e : Ending) (W' : World) : Prop :=
  ∃ A' cap', e = .returned (.tuple #[.int .i64 (arrs.length + 1), .int .i64 0]) ∧ Touch (fun k => k = gh ∨ ∃ a : Addr, A = some a ∧ k = a.block) W W' ∧
    (A' = A ∨ ∀ a : Addr, A' = some a → W.heap.size ≤ a.block) ∧ HeapAt W' gh gw base room (arrs ++ [List.replicate n 0]) A' cap'

end Go.Proofs.Ythllfeogchbihab
