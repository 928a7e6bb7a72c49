/- Heaps (package heap): a heap that was made: what lies in memory, and the contracts of its functions. -/
import Derived.Test.YthllfeogchbihabHeapP
import Derived.Test.YthllfeogchbihabHeapC
import Derived.Test.YthllfeogchbihabTouch
import Derived.Maps.AppendAt
namespace Go.Proofs.Ythllfeogchbihab
open Go.RowKit Go.Shelf
set_option linter.unusedSimpArgs false
set_option linter.unusedVariables false

/-- A heap in memory, with the arrays arrs in room words. -/
structure HeapAt (W : World) (gh gw base room : Nat) (arrs : List (List Int)) (A : Option Addr) (cap : Nat) : Prop where
  hb : Blk W gh [.slice (some ⟨gw, 0, none⟩) room room, .slice A arrs.length cap, .bool true]
  hw : Blk W gw ((words room arrs).map (Value.int .i64))
  rm : room ≤ 1024
  sm : arrs.flatten.length ≤ room
  ml : arrs.length ≤ 5000
  row : W.ownsRow base 25 1 (.slice A arrs.length cap) arrs.length ((svs gw arrs).map svV)
  b1 : gh < base
  b2 : gw < base
  ne : gh ≠ gw
  bs : base ≤ W.heap.size

/-- Its blocks. -/
def FH (gh gw : Nat) (A : Option Addr) : Nat → Prop := fun k => k = gh ∨ k = gw ∨ ∃ a : Addr, A = some a ∧ k = a.block

theorem HeapAt.touch {S : Nat → Prop} {W W' : World} {gh gw base room : Nat} {arrs : List (List Int)} {A : Option Addr} {cap : Nat} (h : HeapAt W gh gw base room arrs A cap) (t : Touch S W W') (hs : ∀ k, FH gh gw A k → ¬ S k) :
    HeapAt W' gh gw base room arrs A cap :=
  { h with hb := h.hb.touch t (hs _ (.inl rfl)), hw := h.hw.touch t (hs _ (.inr (.inl rfl))), row := t.row h.row (fun g o c e => hs _ (.inr (.inr ⟨_, by injection e, rfl⟩))), bs := Nat.le_trans h.bs t.size }
theorem HeapAt.below {W W' : World} {gh gw base room : Nat} {arrs : List (List Int)} {A : Option Addr} {cap : Nat} (h : HeapAt W gh gw base room arrs A cap) (hb : Below W.heap.size W W') : HeapAt W' gh gw base room arrs A cap :=
  h.touch (Touch.of_below hb (Nat.le_refl _) (fun _ => False)) (fun _ _ e => e)

theorem HeapAt.rowIn {W : World} {gh gw base room : Nat} {arrs : List (List Int)} {A : Option Addr} {cap : Nat} (h : HeapAt W gh gw base room arrs A cap) : RowIn W.heap.size W A (svs gw arrs) := by
  intro j hj
  have hr := h.row
  obtain ⟨-, hr2⟩ := id hr
  rw [svs_length] at hj
  rcases hr2 with ⟨e, e2⟩ | ⟨g, c, cur, e, hb, hc, -⟩
  · omega
  · injection e with e1 e2 e3
    subst e1
    refine ⟨g, 0, rfl, (Array.getElem?_eq_some_iff.1 hc).1, ?_⟩
    rw [Nat.zero_add]
    have := hr.cellAt j (by omega)
    rw [this, List.getElem?_map, svs_get gw arrs j hj]
    rfl

section
variable {W : World} {gh gw base room : Nat} {arrs : List (List Int)} {A : Option Addr} {cap : Nat}

theorem array_at (h : HeapAt W gh gw base room arrs A cap) (ref : Int) :
    Calls Try.prog 21 #[.pointer (some ⟨gh, 0, none⟩), .int .i64 ref] W fun e W' => e = .returned (.tuple #[svV (arrOf (svs gw arrs) ref), .bool (hasB (svs gw arrs) ref)]) ∧ Below W.heap.size W W' :=
  array_any gh ref A cap (svs gw arrs) (by rw [svs_length]; have := h.ml; omega) W h.hb.l (by rw [svs_length]; exact h.hb.c 1 _ rfl) (h.hb.c 2 _ rfl) h.rowIn
theorem arr_k {k : Nat} (hk : k < arrs.length) : arrOf (svs gw arrs) ((k : Int) + 1) = (some ⟨gw, if arrs[k].length = 0 then 0 else st arrs k, none⟩, arrs[k].length, arrs[k].length) ∧ hasB (svs gw arrs) ((k : Int) + 1) = true := by
  have h1 : 0 ≤ (k : Int) + 1 ∧ (k : Int) + 1 ≤ (svs gw arrs).length := by rw [svs_length]; omega
  refine ⟨?_, decide_eq_true h1⟩
  unfold arrOf
  rw [if_pos h1]
  have e : ((k : Int) + 1).toNat = k + 1 := by omega
  rw [e]
  simp [nthV, svs_get gw arrs k hk]
theorem arr_0 : arrOf (svs gw arrs) 0 = (none, 0, 0) ∧ hasB (svs gw arrs) 0 = true := by
  have h1 : (0 : Int) ≤ 0 ∧ (0 : Int) ≤ (svs gw arrs).length := by omega
  refine ⟨?_, decide_eq_true h1⟩
  unfold arrOf
  rw [if_pos h1]
  rfl
theorem arr_no {ref : Int} (h : ref < 0 ∨ arrs.length < ref) : arrOf (svs gw arrs) ref = (none, 0, 0) ∧ hasB (svs gw arrs) ref = false := by
  have h1 : ¬ (0 ≤ ref ∧ ref ≤ (svs gw arrs).length) := by rw [svs_length]; omega
  exact ⟨if_neg h1, decide_eq_false h1⟩

/-- Which place of the words is place i of array ref, if there is one. -/
def plA (arrs : List (List Int)) (ref i : Int) : Option (Nat × Nat) :=
  if 1 ≤ ref ∧ 0 ≤ i ∧ i < (arrs[(ref - 1).toNat]?.getD []).length then some ((ref - 1).toNat, i.toNat) else none
theorem plA_some {ref i : Int} {k j : Nat} (h : plA arrs ref i = some (k, j)) : ref = (k : Int) + 1 ∧ i = j ∧ ∃ hk : k < arrs.length, j < arrs[k].length := by
  unfold plA at h
  split at h
  · rename_i hc
    injection h with h
    injection h with h1 h2
    subst h1 h2
    by_cases hk : (ref - 1).toNat < arrs.length
    · rw [List.getElem?_eq_getElem hk, Option.getD_some] at hc
      exact ⟨by omega, by omega, hk, by omega⟩
    · rw [List.getElem?_eq_none (by omega)] at hc
      simp at hc
      omega
  · cases h
theorem plA_none {ref i : Int} (h : plA arrs ref i = none) (h1 : 1 ≤ ref) (h2 : 0 ≤ i) {k : Nat} (hk : k < arrs.length) (he : ref = (k : Int) + 1) : (arrs[k].length : Int) ≤ i := by
  unfold plA at h
  split at h
  · cases h
  · rename_i hc
    have e : (ref - 1).toNat = k := by omega
    rw [e, List.getElem?_eq_getElem hk, Option.getD_some] at hc
    omega

theorem place_yes (h : HeapAt W gh gw base room arrs A cap) {k j : Nat} (hk : k < arrs.length) (hj : j < arrs[k].length) :
    Calls Try.prog 20 #[.pointer (some ⟨gh, 0, none⟩), .int .i64 ((k : Int) + 1), .int .i64 j] W fun e W' => e = .returned (.pointer (some ⟨gw, st arrs k + j, none⟩)) ∧ Below W.heap.size W W' := by
  have ha := array_at h ((k : Int) + 1)
  rw [(arr_k hk).1, (arr_k hk).2, if_neg (by omega)] at ha
  simp only [svV] at ha
  have hsl := st_le hk
  have hrm := h.rm
  have hsm := h.sm
  have HA := Lib.hid ha
  generalize arrs[k].length = L at *
  generalize st arrs k = S at *
  have h1 : (j : Int) < (L : Int) := by omega
  have h2 : (L : Int) ≤ 1024 := by omega
  have h3 : (k : Int) ≤ 5000 := by have := h.ml; omega
  clear ha h hk
  go_enter Try.func20, Try.ntmps20
  go_wp2_with fail
  refine HA.out.mono ?_
  rintro e w1 ⟨rfl, hb⟩
  go_wp2_with fail
  go_ret
  exact ⟨rfl, hb⟩

theorem place_no (h : HeapAt W gh gw base room arrs A cap) {ref i : Int} (hp : plA arrs ref i = none) :
    Calls Try.prog 20 #[.pointer (some ⟨gh, 0, none⟩), .int .i64 ref, .int .i64 i] W fun e W' => e = .returned (.pointer none) ∧ Below W.heap.size W W' := by
  have ha := array_at h ref
  by_cases h1 : ref < 0 ∨ arrs.length < ref
  · rw [(arr_no h1).1, (arr_no h1).2] at ha
    simp only [svV] at ha
    have HA := Lib.hid ha
    clear ha h hp h1
    go_enter Try.func20, Try.ntmps20
    go_wp2_with fail
    refine HA.out.mono ?_
    rintro e w1 ⟨rfl, hb⟩
    go_wp2_with fail
    go_ret
    exact ⟨rfl, hb⟩
  by_cases h2 : i < 0
  · have hb0 : hasB (svs gw arrs) ref = true := decide_eq_true (by rw [svs_length]; omega)
    rw [hb0] at ha
    simp only [svV] at ha
    generalize (arrOf (svs gw arrs) ref).1 = X1 at *
    generalize (arrOf (svs gw arrs) ref).2.1 = X2 at *
    generalize (arrOf (svs gw arrs) ref).2.2 = X3 at *
    have HA := Lib.hid ha
    clear ha h hp h1 hb0
    go_enter Try.func20, Try.ntmps20
    go_wp2_with fail
    refine HA.out.mono ?_
    rintro e w1 ⟨rfl, hb⟩
    go_wp2_with fail
    go_ret
    exact ⟨rfl, hb⟩
  by_cases h3 : ref = 0
  · subst h3
    rw [arr_0.1, arr_0.2] at ha
    simp only [svV] at ha
    have HA := Lib.hid ha
    have h4 : 0 ≤ i := by omega
    clear ha h hp h1 h2
    go_enter Try.func20, Try.ntmps20
    go_wp2_with fail
    refine HA.out.mono ?_
    rintro e w1 ⟨rfl, hb⟩
    go_wp2_with fail
    go_ret
    exact ⟨rfl, hb⟩
  · obtain ⟨k, hk⟩ := Int.eq_ofNat_of_zero_le (show 0 ≤ ref - 1 by omega)
    have hk' : k < arrs.length := by omega
    obtain rfl : ref = (k : Int) + 1 := by omega
    have hle := plA_none hp (by omega) (by omega) hk' rfl
    rw [(arr_k hk').1, (arr_k hk').2] at ha
    simp only [svV] at ha
    generalize (if arrs[k].length = 0 then 0 else st arrs k) = S at *
    generalize arrs[k].length = L at *
    have HA := Lib.hid ha
    have h4 : 0 ≤ i := by omega
    clear ha h hp h1 h2 h3 hk
    go_enter Try.func20, Try.ntmps20
    go_wp2_with fail
    refine HA.out.mono ?_
    rintro e w1 ⟨rfl, hb⟩
    go_wp2_with fail
    go_ret
    exact ⟨rfl, hb⟩

theorem at_yes (h : HeapAt W gh gw base room arrs A cap) {k j : Nat} (hk : k < arrs.length) (hj : j < arrs[k].length) :
    Calls Try.prog 8 #[.pointer (some ⟨gh, 0, none⟩), .int .i64 ((k : Int) + 1), .int .i64 j] W fun e W' => e = .returned (.tuple #[.int .i64 arrs[k][j], .bool true]) ∧ Below W.heap.size W W' := by
  have ha := place_yes h hk hj
  have hc := h.hw.c (st arrs k + j) (.int .i64 arrs[k][j]) (by rw [List.getElem?_map, words_get hk hj]; rfl)
  have hl := h.hw.l
  generalize arrs[k][j] = x at *
  have HA := Lib.hid ha
  have HC := Lib.hid hc
  clear ha hc h
  go_enter Try.func8, Try.ntmps8
  go_wp2_with fail
  refine HA.out.mono ?_
  rintro e w1 ⟨rfl, hb⟩
  have hc := (hb.cell (p := ⟨gw, st arrs k + j, none⟩) hl).trans HC.out
  go_wp2_with fail
  go_ret2
  exact ⟨rfl, hb⟩
theorem at_no (h : HeapAt W gh gw base room arrs A cap) {ref i : Int} (hp : plA arrs ref i = none) :
    Calls Try.prog 8 #[.pointer (some ⟨gh, 0, none⟩), .int .i64 ref, .int .i64 i] W fun e W' => e = .returned (.tuple #[.int .i64 0, .bool false]) ∧ Below W.heap.size W W' := by
  have ha := place_no h hp
  have HA := Lib.hid ha
  clear ha h hp
  go_enter Try.func8, Try.ntmps8
  go_wp2_with fail
  refine HA.out.mono ?_
  rintro e w1 ⟨rfl, hb⟩
  go_wp2_with fail
  go_ret2
  exact ⟨rfl, hb⟩
theorem put_no (h : HeapAt W gh gw base room arrs A cap) {ref i : Int} (v : Int) (hp : plA arrs ref i = none) :
    Calls Try.prog 10 #[.pointer (some ⟨gh, 0, none⟩), .int .i64 ref, .int .i64 i, .int .i64 v] W fun e W' => e = .returned (.bool false) ∧ Below W.heap.size W W' := by
  have ha := place_no h hp
  have HA := Lib.hid ha
  clear ha h hp
  go_enter Try.func10, Try.ntmps10
  go_wp2_with fail
  refine HA.out.mono ?_
  rintro e w1 ⟨rfl, hb⟩
  go_wp2_with fail
  go_ret
  exact ⟨rfl, hb⟩
theorem put_yes (h : HeapAt W gh gw base room arrs A cap) {k j : Nat} (v : Int) (hk : k < arrs.length) (hj : j < arrs[k].length) :
    Calls Try.prog 10 #[.pointer (some ⟨gh, 0, none⟩), .int .i64 ((k : Int) + 1), .int .i64 j, .int .i64 v] W fun e W' => e = .returned (.bool true) ∧
      Touch (fun b => b = gw) W W' ∧ HeapAt W' gh gw base room (arrs.set k (arrs[k].set j v)) A cap := by
  have ha := place_yes h hk hj
  have hi : ((words room arrs).map (Value.int .i64))[st arrs k + j]? = some (.int .i64 arrs[k][j]) := by rw [List.getElem?_map, words_get hk hj]; rfl
  have hc := h.hw.c _ _ hi
  have hf := h.hw.f (st arrs k + j)
  have hl := h.hw.l
  have HA := Lib.hid ha
  have HC := Lib.hid hc
  have HF := Lib.hid hf
  have H := Lib.hid h
  clear ha hc hf h
  go_enter Try.func10, Try.ntmps10
  go_wp2_with fail
  refine HA.out.mono ?_
  rintro e w1 ⟨rfl, hb⟩
  have hc := (hb.cell (p := ⟨gw, st arrs k + j, none⟩) hl).trans HC.out
  have hf := (hb.frozen (p := ⟨gw, st arrs k + j, none⟩) hl).trans HF.out
  have HB := Lib.hid hb
  clear hb
  go_wp2_with fail
  go_ret
  have t1 : Touch (fun b => b = gw) W (w1.setCell ⟨gw, st arrs k + j, none⟩ (.int .i64 v)) := (Touch.of_below HB.out (Nat.le_refl _) _).setCell _ _ (fun _ => rfl)
  have h1 := H.out.below HB.out
  refine ⟨rfl, t1, ?_⟩
  have hs := set_flatten_length hk j v
  have t2 : Touch (fun b => b = gw) w1 (w1.setCell ⟨gw, st arrs k + j, none⟩ (.int .i64 v)) := (Touch.refl _ _).setCell _ _ (fun _ => rfl)
  refine ⟨?_, ?_, h1.rm, by rw [hs]; exact h1.sm, by rw [List.length_set]; exact h1.ml, ?_, h1.b1, h1.b2, h1.ne, by simpa using h1.bs⟩
  · rw [List.length_set]; exact h1.hb.touch t2 h1.ne
  · have := h1.hw.set hi (.int .i64 v)
    rw [← List.map_set, words_set hk hj v] at this
    exact this
  · rw [List.length_set, svs_set gw hk j v]
    refine t2.row h1.row (fun g o c e e2 => ?_)
    obtain ⟨-, hr⟩ := h1.row
    rcases hr with ⟨e3, -⟩ | ⟨g', c', cur, e3, hb', -⟩
    · rw [e] at e3; cases e3
    · rw [e] at e3
      injection e3 with e3
      injection e3 with e3
      injection e3 with e3
      have := h1.b2
      have : g = gw := e2
      omega

theorem len_at (h : HeapAt W gh gw base room arrs A cap) (ref : Int) :
    Calls Try.prog 9 #[.pointer (some ⟨gh, 0, none⟩), .int .i64 ref] W fun e W' =>
      e = .returned (.tuple #[.int .i64 (if 1 ≤ ref ∧ ref ≤ arrs.length then ((arrs[(ref - 1).toNat]?.getD []).length : Int) else 0), .bool (decide (0 ≤ ref ∧ ref ≤ arrs.length))]) ∧ Below W.heap.size W W' := by
  have ha := array_at h ref
  have hx : hasB (svs gw arrs) ref = decide (0 ≤ ref ∧ ref ≤ arrs.length) := by unfold hasB; rw [svs_length]
  have hy : ((arrOf (svs gw arrs) ref).2.1 : Int) = if 1 ≤ ref ∧ ref ≤ arrs.length then ((arrs[(ref - 1).toNat]?.getD []).length : Int) else 0 := by
    by_cases h1 : 1 ≤ ref ∧ ref ≤ arrs.length
    · obtain ⟨k, hk⟩ := Int.eq_ofNat_of_zero_le (show 0 ≤ ref - 1 by omega)
      have hk' : k < arrs.length := by omega
      obtain rfl : ref = (k : Int) + 1 := by omega
      rw [(arr_k hk').1, if_pos h1]
      have e : ((k : Int) + 1 - 1).toNat = k := by omega
      rw [e, List.getElem?_eq_getElem hk']
      rfl
    · rw [if_neg h1]
      by_cases h2 : ref = 0
      · subst h2; rw [arr_0.1]; rfl
      · rw [(arr_no (by omega)).1]; rfl
  rw [hx] at ha
  rw [← hy]
  simp only [svV] at ha
  generalize decide (0 ≤ ref ∧ ref ≤ arrs.length) = bq at *
  generalize (arrOf (svs gw arrs) ref).1 = X1 at *
  generalize (arrOf (svs gw arrs) ref).2.1 = X2 at *
  generalize (arrOf (svs gw arrs) ref).2.2 = X3 at *
  have HA := Lib.hid ha
  clear ha h hx hy
  go_enter Try.func9, Try.ntmps9
  go_wp2_with fail
  refine HA.out.mono ?_
  rintro e w1 ⟨rfl, hb⟩
  go_wp2_with fail
  go_ret2
  exact ⟨rfl, hb⟩

theorem used_at (h : HeapAt W gh gw base room arrs A cap) :
    Calls Try.prog 11 #[.pointer (some ⟨gh, 0, none⟩)] W fun e W' => e = .returned (.int .i64 arrs.flatten.length) ∧ Below W.heap.size W W' := by
  have hu := used_any gh A cap (svs gw arrs) (by rw [svs_length]; have := h.ml; omega) W h.hb.l (by rw [svs_length]; exact h.hb.c 1 _ rfl) (h.hb.c 2 _ rfl) h.rowIn
  rw [svs_length, sum_svs gw arrs (Nat.le_trans h.sm h.rm) arrs.length (Nat.le_refl _), st_all] at hu
  exact hu
end
end Go.Proofs.Ythllfeogchbihab
