/- HeapPlays: the document's own heap in memory, and the contracts of its functions. -/
import Derived.Test.YthllfeogchbihabHeapK
import Derived.Deep.DeepCutAuto
import Derived.BigQuiet
namespace Go.Proofs.Ythllfeogchbihab
open Go.RowKit Go.Shelf
set_option linter.unusedSimpArgs false
set_option linter.unusedVariables false

/-- The document's heap in memory. -/
structure RefAt (W : World) (base rh room : Nat) (v : Value) (gs : Nat → Nat) (rs : List (List Int)) : Prop where
  rb : Blk W rh [.int .i64 room, v]
  wa : WantAt W base v gs rs
  nf : ¬ FW v gs rs.length rh
  sm : rs.flatten.length ≤ room
  rm : room ≤ 1024
  ml : rs.length ≤ 5000

def hasR (q : Nat) (ref : Int) : Bool := decide (0 ≤ ref ∧ ref < q)
def plR (rs : List (List Int)) (ref i : Int) : Bool := decide (0 ≤ ref ∧ ref < rs.length ∧ 0 ≤ i ∧ i < (rs[ref.toNat]?.getD []).length)

theorem rhas_any (rh : Nat) (A : Option Addr) (q cap : Nat) (ref : Int) (w : World) (hq : q ≤ 5000) (hl : rh < w.heap.size) (hc : w.cell? ⟨rh, 1, none⟩ = some (.slice A q cap)) :
    Calls Try.prog 24 #[.pointer (some ⟨rh, 0, none⟩), .int .i64 ref] w fun e w' => e = .returned (.bool (hasR q ref)) ∧ w' = w := by
  have hq' : (q : Int) ≤ 5000 := by omega
  by_cases h1 : 0 ≤ ref
  · by_cases h2 : ref < q
    · have HS : Hid (hasR q ref = true) := Lib.hid (decide_eq_true ⟨h1, h2⟩)
      go_enter Try.func24, Try.ntmps24
      go_wp2_with fail
      go_ret
      exact ⟨by rw [HS.out]; simp, rfl⟩
    · have HS : Hid (hasR q ref = false) := Lib.hid (decide_eq_false (fun h => h2 h.2))
      go_enter Try.func24, Try.ntmps24
      go_wp2_with fail
      go_ret
      exact ⟨by rw [HS.out]; simp, rfl⟩
  · have HS : Hid (hasR q ref = false) := Lib.hid (decide_eq_false (fun h => h1 h.1))
    have h2 : decide (0 ≤ ref) = false := decide_eq_false h1
    go_enter Try.func24, Try.ntmps24
    go_wp2_with fail
    go_ret
    exact ⟨by rw [HS.out]; rfl, rfl⟩

section
variable {W : World} {base rh room : Nat} {v : Value} {gs : Nat → Nat} {rs : List (List Int)}
theorem RefAt.form (h : RefAt W base rh room v gs rs) : ∃ A cap, v = .slice A rs.length cap := h.wa.form
theorem rhas_at (h : RefAt W base rh room v gs rs) (ref : Int) :
    Calls Try.prog 24 #[.pointer (some ⟨rh, 0, none⟩), .int .i64 ref] W fun e w' => e = .returned (.bool (hasR rs.length ref)) ∧ w' = W := by
  obtain ⟨A, cap, rfl⟩ := h.form
  exact rhas_any rh A _ cap ref W h.ml h.rb.l (h.rb.c 1 _ rfl)

/-- What lies where array k is. -/
theorem RefAt.parts (h : RefAt W base rh room v gs rs) {k : Nat} (hk : k < rs.length) :
    ∃ g cap, v = .slice (some ⟨g, 0, none⟩) rs.length cap ∧ W.cell? ⟨rh, 1, none⟩ = some (.slice (some ⟨g, 0, none⟩) rs.length cap) ∧ W.cell? ⟨g, k, none⟩ = some (.slice (some ⟨gs k, 0, none⟩) rs[k].length rs[k].length) ∧ rs[k].length ≤ 1024 ∧ rs.length ≤ 5000 := by
  obtain ⟨g, cap, rfl, hc, -⟩ := h.wa.at hk
  refine ⟨g, cap, rfl, h.rb.c 1 _ rfl, hc, ?_, h.ml⟩
  have := st_le hk
  have := h.sm
  have := h.rm
  omega

theorem rplace_at (h : RefAt W base rh room v gs rs) (ref i : Int) :
    Calls Try.prog 23 #[.pointer (some ⟨rh, 0, none⟩), .int .i64 ref, .int .i64 i] W fun e w' => e = .returned (.bool (plR rs ref i)) ∧ w' = W := by
  have hh := rhas_at h ref
  by_cases h1 : 0 ≤ ref ∧ ref < rs.length
  · obtain ⟨k, rfl⟩ := Int.eq_ofNat_of_zero_le h1.1
    have hk : k < rs.length := by omega
    obtain ⟨g, cap, -, hc1, hc2, hL, hq⟩ := h.parts hk
    have e0 : hasR rs.length (k : Int) = true := decide_eq_true h1
    rw [e0] at hh
    have HH := Lib.hid hh
    obtain ⟨q, hq2⟩ : ∃ q, rs.length = q := ⟨_, rfl⟩
    obtain ⟨L, hL2⟩ : ∃ L, rs[k].length = L := ⟨_, rfl⟩
    have hv : plR rs k i = decide (0 ≤ i ∧ i < (L : Int)) := by
      unfold plR
      rw [Int.toNat_natCast, List.getElem?_eq_getElem hk, Option.getD_some, hL2]
      have a1 : (0 : Int) ≤ (k : Int) := by omega
      have a2 : (k : Int) < (rs.length : Int) := by omega
      simp [a1, a2, hk]
    rw [hq2] at hc1 hk hq
    rw [hL2] at hc2 hL
    have HV := Lib.hid hv
    have hk' : (k : Int) < (q : Int) := by omega
    have hq' : (q : Int) ≤ 5000 := by omega
    have hL' : (L : Int) ≤ 1024 := by omega
    clear h hh e0 hq2 hL2 hv h1
    by_cases h2 : 0 ≤ i
    · by_cases h3 : i < (L : Int)
      · go_enter Try.func23, Try.ntmps23
        go_wp2_with fail
        refine HH.out.mono ?_
        rintro e w1 ⟨rfl, rfl⟩
        go_wp2_with fail
        go_ret
        exact ⟨by rw [HV.out]; simp [h2, h3], rfl⟩
      · go_enter Try.func23, Try.ntmps23
        go_wp2_with fail
        refine HH.out.mono ?_
        rintro e w1 ⟨rfl, rfl⟩
        go_wp2_with fail
        go_ret
        exact ⟨by rw [HV.out]; simp [h2, h3], rfl⟩
    · have h3 : decide (0 ≤ i) = false := decide_eq_false h2
      go_enter Try.func23, Try.ntmps23
      go_wp2_with fail
      refine HH.out.mono ?_
      rintro e w1 ⟨rfl, rfl⟩
      go_wp2_with fail
      go_ret
      exact ⟨by rw [HV.out, decide_eq_false (show ¬ (0 ≤ i ∧ i < (L : Int)) by omega)]; rfl, rfl⟩
  · have e0 : hasR rs.length ref = false := decide_eq_false h1
    have e1 : plR rs ref i = false := decide_eq_false (fun h => h1 ⟨h.1, h.2.1⟩)
    rw [e0] at hh
    have HH := Lib.hid hh
    have HV := Lib.hid e1
    clear h hh h1 e0 e1
    go_enter Try.func23, Try.ntmps23
    go_wp2_with fail
    refine HH.out.mono ?_
    rintro e w1 ⟨rfl, rfl⟩
    go_wp2_with fail
    go_ret
    exact ⟨by rw [HV.out]; rfl, rfl⟩

theorem plR_yes {ref i : Int} (h : plR rs ref i = true) : ∃ k j : Nat, ref = k ∧ i = j ∧ ∃ hk : k < rs.length, j < rs[k].length := by
  have h := of_decide_eq_true h
  obtain ⟨k, rfl⟩ := Int.eq_ofNat_of_zero_le h.1
  obtain ⟨j, rfl⟩ := Int.eq_ofNat_of_zero_le h.2.2.1
  have hk : k < rs.length := by omega
  have h2 := h.2.2.2
  rw [Int.toNat_natCast, List.getElem?_eq_getElem hk, Option.getD_some] at h2
  exact ⟨k, j, rfl, rfl, hk, by omega⟩

theorem rat_no (h : RefAt W base rh room v gs rs) {ref i : Int} (hp : plR rs ref i = false) :
    Calls Try.prog 16 #[.pointer (some ⟨rh, 0, none⟩), .int .i64 ref, .int .i64 i] W fun e w' => e = .returned (.tuple #[.int .i64 0, .bool false]) ∧ w' = W := by
  have hh := rplace_at h ref i
  rw [hp] at hh
  have HH := Lib.hid hh
  clear h hh hp
  go_enter Try.func16, Try.ntmps16
  go_wp2_with fail
  refine HH.out.mono ?_
  rintro e w1 ⟨rfl, rfl⟩
  go_wp2_with fail
  go_ret2
  exact ⟨rfl, rfl⟩
theorem rat_yes (h : RefAt W base rh room v gs rs) {k j : Nat} (hk : k < rs.length) (hj : j < rs[k].length) (hp : plR rs k j = true) :
    Calls Try.prog 16 #[.pointer (some ⟨rh, 0, none⟩), .int .i64 k, .int .i64 j] W fun e w' => e = .returned (.tuple #[.int .i64 rs[k][j], .bool true]) ∧ w' = W := by
  have hh := rplace_at h k j
  rw [hp] at hh
  obtain ⟨g, cap, -, hc1, hc2, hL, hq⟩ := h.parts hk
  have hc3 := h.wa.cell hk hj
  have HH := Lib.hid hh
  generalize rs[k][j] = x at *
  generalize rs[k].length = L at *
  have hk' : (k : Int) < (rs.length : Int) := by omega
  generalize rs.length = q at *
  have hj' : (j : Int) < (L : Int) := by omega
  have hq' : (q : Int) ≤ 5000 := by omega
  have hL' : (L : Int) ≤ 1024 := by omega
  clear h hh hp
  go_enter Try.func16, Try.ntmps16
  go_wp2_with fail
  refine HH.out.mono ?_
  rintro e w1 ⟨rfl, rfl⟩
  go_wp2_with fail
  go_ret2
  exact ⟨rfl, rfl⟩
theorem rput_no (h : RefAt W base rh room v gs rs) {ref i : Int} (x : Int) (hp : plR rs ref i = false) :
    Calls Try.prog 15 #[.pointer (some ⟨rh, 0, none⟩), .int .i64 ref, .int .i64 i, .int .i64 x] W fun e w' => e = .returned (.bool false) ∧ w' = W := by
  have hh := rplace_at h ref i
  rw [hp] at hh
  have HH := Lib.hid hh
  clear h hh hp
  go_enter Try.func15, Try.ntmps15
  go_wp2_with fail
  refine HH.out.mono ?_
  rintro e w1 ⟨rfl, rfl⟩
  go_wp2_with fail
  go_ret
  exact ⟨rfl, rfl⟩
theorem rput_yes (h : RefAt W base rh room v gs rs) {k j : Nat} (x : Int) (hk : k < rs.length) (hj : j < rs[k].length) (hp : plR rs k j = true) :
    Calls Try.prog 15 #[.pointer (some ⟨rh, 0, none⟩), .int .i64 k, .int .i64 j, .int .i64 x] W fun e w' => e = .returned (.bool true) ∧ w' = W.setCell ⟨gs k, j, none⟩ (.int .i64 x) := by
  have hh := rplace_at h k j
  rw [hp] at hh
  obtain ⟨g, cap, -, hc1, hc2, hL, hq⟩ := h.parts hk
  have hc3 := h.wa.cell hk hj
  have hf3 := (h.wa.bk k hk).f j
  have HH := Lib.hid hh
  generalize rs[k][j] = y at *
  generalize rs[k].length = L at *
  have hk' : (k : Int) < (rs.length : Int) := by omega
  generalize rs.length = q at *
  have hj' : (j : Int) < (L : Int) := by omega
  have hq' : (q : Int) ≤ 5000 := by omega
  have hL' : (L : Int) ≤ 1024 := by omega
  clear h hh hp
  go_enter Try.func15, Try.ntmps15
  go_wp2_with fail
  refine HH.out.mono ?_
  rintro e w1 ⟨rfl, rfl⟩
  go_wp2_with fail
  go_ret
  exact ⟨rfl, rfl⟩
theorem RefAt.store (h : RefAt W base rh room v gs rs) {k j : Nat} (x : Int) (hk : k < rs.length) (hj : j < rs[k].length) : RefAt (W.setCell ⟨gs k, j, none⟩ (.int .i64 x)) base rh room v gs (rs.set k (rs[k].set j x)) :=
  ⟨h.rb.other (fun e => h.nf (.inr ⟨k, hk, e.symm⟩)) j _, h.wa.store hk hj x, by rw [List.length_set]; exact h.nf, by rw [set_flatten_length hk]; exact h.sm, h.rm, by rw [List.length_set]; exact h.ml⟩

theorem rlen_at (h : RefAt W base rh room v gs rs) (ref : Int) :
    Calls Try.prog 17 #[.pointer (some ⟨rh, 0, none⟩), .int .i64 ref] W fun e w' =>
      e = .returned (.tuple #[.int .i64 (if 0 ≤ ref ∧ ref < rs.length then ((rs[ref.toNat]?.getD []).length : Int) else 0), .bool (hasR rs.length ref)]) ∧ w' = W := by
  have hh := rhas_at h ref
  by_cases h1 : 0 ≤ ref ∧ ref < rs.length
  · rw [if_pos h1]
    obtain ⟨k, rfl⟩ := Int.eq_ofNat_of_zero_le h1.1
    have hk : k < rs.length := by omega
    obtain ⟨g, cap, -, hc1, hc2, hL, hq⟩ := h.parts hk
    have e0 : hasR rs.length (k : Int) = true := decide_eq_true h1
    rw [e0] at hh ⊢
    rw [Int.toNat_natCast, List.getElem?_eq_getElem hk, Option.getD_some]
    have HH := Lib.hid hh
    generalize rs[k].length = L at *
    have hk' : (k : Int) < (rs.length : Int) := by omega
    clear h hh e0 h1
    generalize rs.length = q at *
    have hq' : (q : Int) ≤ 5000 := by omega
    have hL' : (L : Int) ≤ 1024 := by omega
    go_enter Try.func17, Try.ntmps17
    go_wp2_with fail
    refine HH.out.mono ?_
    rintro e w1 ⟨rfl, rfl⟩
    go_wp2_with fail
    go_ret2
    exact ⟨rfl, rfl⟩
  · rw [if_neg h1]
    have e0 : hasR rs.length ref = false := decide_eq_false h1
    rw [e0] at hh ⊢
    have HH := Lib.hid hh
    clear h hh h1 e0
    go_enter Try.func17, Try.ntmps17
    go_wp2_with fail
    refine HH.out.mono ?_
    rintro e w1 ⟨rfl, rfl⟩
    go_wp2_with fail
    go_ret2
    exact ⟨rfl, rfl⟩

theorem rused_at (h : RefAt W base rh room v gs rs) :
    Calls Try.prog 18 #[.pointer (some ⟨rh, 0, none⟩)] W fun e w' => e = .returned (.int .i64 rs.flatten.length) ∧ w' = W := by
  obtain ⟨A, cap, hv⟩ := h.form
  have hc1 : W.cell? ⟨rh, 1, none⟩ = some (.slice A rs.length cap) := hv ▸ h.rb.c 1 _ rfl
  have hq := h.ml
  have H := Lib.hid h
  have hl := h.rb.l
  obtain ⟨q, hq2⟩ : ∃ q, rs.length = q := ⟨_, rfl⟩
  have HQ := Lib.hid hq2
  rw [hq2] at hc1 hq
  have hq' : (q : Int) ≤ 5000 := by omega
  clear h hq2 hv
  go_enter Try.func18, Try.ntmps18
  go_wp2_with fail
  go_loop [3, 4] (fun n i => ∃ k : Nat, k ≤ q ∧ i = .int .i64 k ∧ n = .int .i64 (st rs k)) (fun _ i => q - (intOf i).toNat)
  case atStart => exact ⟨0, by omega, rfl, rfl⟩
  case round =>
    obtain ⟨k, hk, rfl, rfl⟩ := hrel
    by_cases hlt : k < q
    · have hkl : k < rs.length := by rw [HQ.out]; exact hlt
      obtain ⟨g, cap', hv', hc0, hc2, hL, -⟩ := H.out.parts hkl
      rw [HQ.out] at hc0
      rw [hc0] at hc1
      injection hc1 with hc1
      injection hc1 with e1 e2 e3
      subst e1
      subst e3
      have hs := st_succ hkl
      have hs2 := st_le hkl
      have hs3 := H.out.sm
      have hs4 := H.out.rm
      obtain ⟨L, hL2⟩ : ∃ L, rs[k].length = L := ⟨_, rfl⟩
      rw [hL2] at hc2 hL hs hs2
      obtain ⟨s, hst⟩ : ∃ s, st rs k = s := ⟨_, rfl⟩
      rw [hst] at hs hs2 ⊢
      have HS := Lib.hid hs
      have b1 : (L : Int) ≤ 1024 := by omega
      have b2 : (s : Int) ≤ 1024 := by omega
      have b3 : (k : Int) < (q : Int) := by omega
      clear hs hs2 hs3 hs4 hst hL2 e2 hv'
      go_wp2_with fail
      go_round
      case rel => exact ⟨k + 1, by omega, by go_num, by rw [HS.out]; go_num⟩
      case measure => simp [intOf]; omega
    · obtain rfl : k = q := by omega
      have hst := st_all rs
      rw [HQ.out] at hst
      have HS := Lib.hid hst
      clear hst
      go_wp2_with fail
      go_ret
      exact ⟨by simp [HS.out, List.length_flatten], rfl⟩
end
end Go.Proofs.Ythllfeogchbihab
