/- FramePlays: one act done to both. -/
import Derived.Test.YthllfeogchbihaaFrameX
import Derived.Test.YthllfeogchbihaaEqV
import Derived.Deep.RegionHeld3
namespace Go.Proofs.Ythllfeogchbihaa
open Go.RowKit
set_option linter.unusedSimpArgs false
set_option linter.unusedVariables false

def Does (w : World) (fg rf c d : Nat) (e : Ending) (W' : World) : Prop := e = .returned (.bool true) ∧ ∃ F', PO w W' fg rf (c + 1) (d + 1) F' F' (fun _ => False)
section
variable {w W : World} {fg rf c d : Nat} {F : Fr}
set_option maxRecDepth 100000 in
set_option maxHeartbeats 2000000 in
theorem does_0 (h : PO w W fg rf c d F F (fun _ => False)) (k i n x0 x1 x2 : Int) (hk : 0 ≤ k ∧ k ≤ 255) (hi : I64 i) (hn : I64 n) (hv : VOk (x0, x1, x2)) (hc : c < 100000) (hd : d < 100000) (hkk : k % 7 = 0) :
    Calls Try.prog 18 #[.pointer (some ⟨fg, 0, none⟩), .pointer (some ⟨rf, 0, none⟩), .agg #[.int .u8 k, .int .i64 i, .int .i64 n, .int .u8 x0, .int .i64 x1, .int .i64 x2]] W fun e W' => Does w fg rf c d e W' := by
  have HI := Lib.hid hi
  have HN := Lib.hid hn
  have HV := Lib.hid hv
  have y0 : 0 ≤ x0 := hv.1.1
  have y1 : x0 ≤ 255 := hv.1.2
  obtain ⟨k0, k1⟩ := hk
  have hp := h.alloc (.cells #[.int .u8 k, .int .i64 i, .int .i64 n, .int .u8 x0, .int .i64 x1, .int .i64 x2] 51)
  have hb := Blk.new W #[.int .u8 k, .int .i64 i, .int .i64 n, .int .u8 x0, .int .i64 x1, .int .i64 x2] 51
  have HB := Lib.hid hb
  have HP := Lib.hid (hp.less (K' := fun b => b = W.heap.size) (fun b e => .inr e))
  have t0 : (k % 7 == 0) = true := beq_iff_eq.2 hkk
  have t1 : (k % 7 == 1) = false := by rw [beq_eq_false_iff_ne]; omega
  have t2 : (k % 7 == 2) = false := by rw [beq_eq_false_iff_ne]; omega
  have t3 : (k % 7 == 3) = false := by rw [beq_eq_false_iff_ne]; omega
  have t4 : (k % 7 == 4) = false := by rw [beq_eq_false_iff_ne]; omega
  have t5 : (k % 7 == 5) = false := by rw [beq_eq_false_iff_ne]; omega
  clear h hp hb hi hn hv hkk
  go_enter Try.func18, Try.ntmps18
  go_wp2_with fail
  obtain ⟨X, hX⟩ : ∃ X, W.alloc (.cells #[.int .u8 k, .int .i64 i, .int .i64 n, .int .u8 x0, .int .i64 x1, .int .i64 x2] 51) = X := ⟨_, rfl⟩
  obtain ⟨bx, hbx⟩ : ∃ bx, W.heap.size = bx := ⟨_, rfl⟩
  rw [hX, hbx] at HB HP
  rw [hX]
  try rw [hbx]
  clear hX hbx
  refine (po_get HP.out i).mono ?_
  rintro e W1 ⟨rfl, hb1⟩
  have hb := HB.out.below hb1
  have a0 : W1.cell? ⟨bx, 0, none⟩ = some (.int .u8 k) := hb.c 0 _ rfl
  have a1 : W1.cell? ⟨bx, 1, none⟩ = some (.int .i64 i) := hb.c 1 _ rfl
  have a2 : W1.cell? ⟨bx, 2, none⟩ = some (.int .i64 n) := hb.c 2 _ rfl
  have a3 : W1.cell? ⟨bx, 3, none⟩ = some (.int .u8 x0) := hb.c 3 _ rfl
  have a4 : W1.cell? ⟨bx, 4, none⟩ = some (.int .i64 x1) := hb.c 4 _ rfl
  have a5 : W1.cell? ⟨bx, 5, none⟩ = some (.int .i64 x2) := hb.c 5 _ rfl
  have hal : bx < W1.heap.size := hb.l
  have hp := (HP.out.below hb1).alloc (.cells #[.int .u8 (getV F i).1, .int .i64 (getV F i).2.1, .int .i64 (getV F i).2.2] 37)
  have hv1 := Blk.new W1 #[.int .u8 (getV F i).1, .int .i64 (getV F i).2.1, .int .i64 (getV F i).2.2] 37
  have HBV := Lib.hid hv1
  have HP := Lib.hid hp
  have hgg := po_rget hp i
  unfold vagg at hgg ⊢
  generalize (getV F i).1 = z0 at *
  generalize (getV F i).2.1 = z1 at *
  generalize (getV F i).2.2 = z2 at *
  generalize getB F i = q at *
  have HG := Lib.hid hgg
  clear hp hb1 hv1 hgg hb
  go_wp2_with fail
  obtain ⟨bv, hbv⟩ : ∃ bv, W1.heap.size = bv := ⟨_, rfl⟩
  obtain ⟨X1, hX1⟩ : ∃ X1, W1.alloc (.cells #[.int .u8 z0, .int .i64 z1, .int .i64 z2] 37) = X1 := ⟨_, rfl⟩
  rw [hX1] at HG HBV HP ⊢
  rw [hbv] at HBV HP
  try rw [hbv]
  clear hX1 hbv a0 a1 a2 a3 a4 a5 hal
  refine HG.out.mono ?_
  rintro e W2 ⟨rfl, hb2⟩
  have hv2 := HBV.out.below hb2
  have v0 : W2.cell? ⟨bv, 0, none⟩ = some (.int .u8 z0) := hv2.c 0 _ rfl
  have v1 : W2.cell? ⟨bv, 1, none⟩ = some (.int .i64 z1) := hv2.c 1 _ rfl
  have v2 : W2.cell? ⟨bv, 2, none⟩ = some (.int .i64 z2) := hv2.c 2 _ rfl
  have hvl := hv2.l
  have HP := Lib.hid (HP.out.below hb2)
  have hq := fun W => val_eql z0 z1 z2 z0 z1 z2 W true (by simp)
  clear hb2 hv2 HBV HG HB
  go_wp2_with fail
  go_ret
  exact ⟨rfl, F, ((HP.out.below ((Below.refl _ _).alloc (Nat.le_refl _) _)).mono (by omega) (by omega)).less (fun b e => e.elim)⟩
set_option maxRecDepth 100000 in
set_option maxHeartbeats 2000000 in
theorem does_1 (h : PO w W fg rf c d F F (fun _ => False)) (k i n x0 x1 x2 : Int) (hk : 0 ≤ k ∧ k ≤ 255) (hi : I64 i) (hn : I64 n) (hv : VOk (x0, x1, x2)) (hc : c < 100000) (hd : d < 100000) (hkk : k % 7 = 1) :
    Calls Try.prog 18 #[.pointer (some ⟨fg, 0, none⟩), .pointer (some ⟨rf, 0, none⟩), .agg #[.int .u8 k, .int .i64 i, .int .i64 n, .int .u8 x0, .int .i64 x1, .int .i64 x2]] W fun e W' => Does w fg rf c d e W' := by
  have HI := Lib.hid hi
  have HN := Lib.hid hn
  have HV := Lib.hid hv
  have y0 : 0 ≤ x0 := hv.1.1
  have y1 : x0 ≤ 255 := hv.1.2
  obtain ⟨k0, k1⟩ := hk
  have hp := h.alloc (.cells #[.int .u8 k, .int .i64 i, .int .i64 n, .int .u8 x0, .int .i64 x1, .int .i64 x2] 51)
  have hb := Blk.new W #[.int .u8 k, .int .i64 i, .int .i64 n, .int .u8 x0, .int .i64 x1, .int .i64 x2] 51
  have HB := Lib.hid hb
  have HP := Lib.hid (hp.less (K' := fun b => b = W.heap.size) (fun b e => .inr e))
  have t0 : (k % 7 == 0) = false := by rw [beq_eq_false_iff_ne]; omega
  have t1 : (k % 7 == 1) = true := beq_iff_eq.2 hkk
  have t2 : (k % 7 == 2) = false := by rw [beq_eq_false_iff_ne]; omega
  have t3 : (k % 7 == 3) = false := by rw [beq_eq_false_iff_ne]; omega
  have t4 : (k % 7 == 4) = false := by rw [beq_eq_false_iff_ne]; omega
  have t5 : (k % 7 == 5) = false := by rw [beq_eq_false_iff_ne]; omega
  clear h hp hb hi hn hv hkk
  go_enter Try.func18, Try.ntmps18
  go_wp2_with fail
  obtain ⟨X, hX⟩ : ∃ X, W.alloc (.cells #[.int .u8 k, .int .i64 i, .int .i64 n, .int .u8 x0, .int .i64 x1, .int .i64 x2] 51) = X := ⟨_, rfl⟩
  obtain ⟨bx, hbx⟩ : ∃ bx, W.heap.size = bx := ⟨_, rfl⟩
  rw [hX, hbx] at HB HP
  rw [hX]
  try rw [hbx]
  clear hX hbx
  have HD := Lib.hid HP.out.drew
  have HBD := Lib.hid HB.out.drew
  have hb := HB.out
  have a0 : X.cell? ⟨bx, 0, none⟩ = some (.int .u8 k) := hb.c 0 _ rfl
  have a1 : X.cell? ⟨bx, 1, none⟩ = some (.int .i64 i) := hb.c 1 _ rfl
  have a2 : X.cell? ⟨bx, 2, none⟩ = some (.int .i64 n) := hb.c 2 _ rfl
  have a3 : X.cell? ⟨bx, 3, none⟩ = some (.int .u8 x0) := hb.c 3 _ rfl
  have a4 : X.cell? ⟨bx, 4, none⟩ = some (.int .i64 x1) := hb.c 4 _ rfl
  have a5 : X.cell? ⟨bx, 5, none⟩ = some (.int .i64 x2) := hb.c 5 _ rfl
  have hal : bx < X.heap.size := hb.l
  clear hb
  go_region_held3 (fun w' => w'.cell? ⟨bx, 1, none⟩ = some (.int .i64 i) ∧ w'.cell? ⟨bx, 3, none⟩ = some (.int .u8 x0) ∧ w'.cell? ⟨bx, 4, none⟩ = some (.int .i64 x1) ∧ w'.cell? ⟨bx, 5, none⟩ = some (.int .i64 x2))
    ((first | (with_reducible exact hkeep) | (with_reducible exact hkeep2) | (refine ⟨?_, ?_, ?_, ?_⟩ <;> simp [*]) | fail))
    (first
      | (go_at_call 22; refine (po_set HD.out i (x0, x1, x2) HV.out).mono ?_; rintro e w4 ⟨rfl, h4⟩
         have hb4 := h4.blk HBD.out rfl
         have hkeep : w4.cell? ⟨bx, 1, none⟩ = some (.int .i64 i) ∧ w4.cell? ⟨bx, 3, none⟩ = some (.int .u8 x0) ∧ w4.cell? ⟨bx, 4, none⟩ = some (.int .i64 x1) ∧ w4.cell? ⟨bx, 5, none⟩ = some (.int .i64 x2) := ⟨hb4.c 1 _ rfl, hb4.c 3 _ rfl, hb4.c 4 _ rfl, hb4.c 5 _ rfl⟩
         have H4 := Lib.hid h4
         have HB4 := Lib.hid hb4
         clear h4 hb4)
      | (go_at_call 27; refine (po_rset H4.out.1 i (x0, x1, x2) HV.out).mono ?_; rintro e w5 ⟨rfl, h5⟩
         have hb5 := h5.blk HB4.out rfl
         have hkeep2 : w5.cell? ⟨bx, 1, none⟩ = some (.int .i64 i) ∧ w5.cell? ⟨bx, 3, none⟩ = some (.int .u8 x0) ∧ w5.cell? ⟨bx, 4, none⟩ = some (.int .i64 x1) ∧ w5.cell? ⟨bx, 5, none⟩ = some (.int .i64 x2) := ⟨hb5.c 1 _ rfl, hb5.c 3 _ rfl, hb5.c 4 _ rfl, hb5.c 5 _ rfl⟩
         have H5 := Lib.hid h5
         clear h5 hb5)
      | fail)
  have HP2 := Lib.hid H5.out.1
  clear H4 H5 HD HBD hkeep hkeep2
  go_wp2_with fail
  go_ret
  exact ⟨rfl, _, (HP2.out.mono (by omega) (by omega)).less (fun b e => e.elim)⟩
set_option maxRecDepth 100000 in
set_option maxHeartbeats 2000000 in
theorem does_2 (h : PO w W fg rf c d F F (fun _ => False)) (k i n x0 x1 x2 : Int) (hk : 0 ≤ k ∧ k ≤ 255) (hi : I64 i) (hn : I64 n) (hv : VOk (x0, x1, x2)) (hc : c < 100000) (hd : d < 100000) (hkk : k % 7 = 2) :
    Calls Try.prog 18 #[.pointer (some ⟨fg, 0, none⟩), .pointer (some ⟨rf, 0, none⟩), .agg #[.int .u8 k, .int .i64 i, .int .i64 n, .int .u8 x0, .int .i64 x1, .int .i64 x2]] W fun e W' => Does w fg rf c d e W' := by
  have HI := Lib.hid hi
  have HN := Lib.hid hn
  have HV := Lib.hid hv
  have y0 : 0 ≤ x0 := hv.1.1
  have y1 : x0 ≤ 255 := hv.1.2
  obtain ⟨k0, k1⟩ := hk
  have hp := h.alloc (.cells #[.int .u8 k, .int .i64 i, .int .i64 n, .int .u8 x0, .int .i64 x1, .int .i64 x2] 51)
  have hb := Blk.new W #[.int .u8 k, .int .i64 i, .int .i64 n, .int .u8 x0, .int .i64 x1, .int .i64 x2] 51
  have HB := Lib.hid hb
  have HP := Lib.hid (hp.less (K' := fun b => b = W.heap.size) (fun b e => .inr e))
  have t0 : (k % 7 == 0) = false := by rw [beq_eq_false_iff_ne]; omega
  have t1 : (k % 7 == 1) = false := by rw [beq_eq_false_iff_ne]; omega
  have t2 : (k % 7 == 2) = true := beq_iff_eq.2 hkk
  have t3 : (k % 7 == 3) = false := by rw [beq_eq_false_iff_ne]; omega
  have t4 : (k % 7 == 4) = false := by rw [beq_eq_false_iff_ne]; omega
  have t5 : (k % 7 == 5) = false := by rw [beq_eq_false_iff_ne]; omega
  clear h hp hb hi hn hv hkk
  go_enter Try.func18, Try.ntmps18
  go_wp2_with fail
  obtain ⟨X, hX⟩ : ∃ X, W.alloc (.cells #[.int .u8 k, .int .i64 i, .int .i64 n, .int .u8 x0, .int .i64 x1, .int .i64 x2] 51) = X := ⟨_, rfl⟩
  obtain ⟨bx, hbx⟩ : ∃ bx, W.heap.size = bx := ⟨_, rfl⟩
  rw [hX, hbx] at HB HP
  rw [hX]
  try rw [hbx]
  clear hX hbx
  have HD := Lib.hid HP.out.drew
  have HBD := Lib.hid HB.out.drew
  have hb := HB.out
  have a0 : X.cell? ⟨bx, 0, none⟩ = some (.int .u8 k) := hb.c 0 _ rfl
  have a1 : X.cell? ⟨bx, 1, none⟩ = some (.int .i64 i) := hb.c 1 _ rfl
  have a2 : X.cell? ⟨bx, 2, none⟩ = some (.int .i64 n) := hb.c 2 _ rfl
  have a3 : X.cell? ⟨bx, 3, none⟩ = some (.int .u8 x0) := hb.c 3 _ rfl
  have a4 : X.cell? ⟨bx, 4, none⟩ = some (.int .i64 x1) := hb.c 4 _ rfl
  have a5 : X.cell? ⟨bx, 5, none⟩ = some (.int .i64 x2) := hb.c 5 _ rfl
  have hal : bx < X.heap.size := hb.l
  clear hb
  go_region_held3 (fun w' => w'.cell? ⟨bx, 1, none⟩ = some (.int .i64 i) ∧ w'.cell? ⟨bx, 3, none⟩ = some (.int .u8 x0) ∧ w'.cell? ⟨bx, 4, none⟩ = some (.int .i64 x1) ∧ w'.cell? ⟨bx, 5, none⟩ = some (.int .i64 x2))
    ((first | (with_reducible exact hkeep) | (with_reducible exact hkeep2) | (refine ⟨?_, ?_, ?_, ?_⟩ <;> simp [*]) | fail))
    (first
      | (go_at_call 11; refine (po_push HD.out (x0, x1, x2) HV.out).mono ?_; rintro e w4 ⟨rfl, h4⟩
         have hb4 := h4.blk HBD.out rfl
         have hkeep : w4.cell? ⟨bx, 1, none⟩ = some (.int .i64 i) ∧ w4.cell? ⟨bx, 3, none⟩ = some (.int .u8 x0) ∧ w4.cell? ⟨bx, 4, none⟩ = some (.int .i64 x1) ∧ w4.cell? ⟨bx, 5, none⟩ = some (.int .i64 x2) := ⟨hb4.c 1 _ rfl, hb4.c 3 _ rfl, hb4.c 4 _ rfl, hb4.c 5 _ rfl⟩
         have H4 := Lib.hid h4
         have HB4 := Lib.hid hb4
         clear h4 hb4)
      | (go_at_call 28; refine (po_rpush H4.out.1 (x0, x1, x2) HV.out).mono ?_; rintro e w5 ⟨rfl, h5⟩
         have hb5 := h5.blk HB4.out rfl
         have hkeep2 : w5.cell? ⟨bx, 1, none⟩ = some (.int .i64 i) ∧ w5.cell? ⟨bx, 3, none⟩ = some (.int .u8 x0) ∧ w5.cell? ⟨bx, 4, none⟩ = some (.int .i64 x1) ∧ w5.cell? ⟨bx, 5, none⟩ = some (.int .i64 x2) := ⟨hb5.c 1 _ rfl, hb5.c 3 _ rfl, hb5.c 4 _ rfl, hb5.c 5 _ rfl⟩
         have H5 := Lib.hid h5
         clear h5 hb5)
      | fail)
  have HP2 := Lib.hid H5.out.1
  clear H4 H5 HD HBD hkeep hkeep2
  go_wp2_with fail
  go_ret
  exact ⟨rfl, _, (HP2.out.mono (by omega) (by omega)).less (fun b e => e.elim)⟩
set_option maxRecDepth 100000 in
set_option maxHeartbeats 2000000 in
theorem does_3 (h : PO w W fg rf c d F F (fun _ => False)) (k i n x0 x1 x2 : Int) (hk : 0 ≤ k ∧ k ≤ 255) (hi : I64 i) (hn : I64 n) (hv : VOk (x0, x1, x2)) (hc : c < 100000) (hd : d < 100000) (hkk : k % 7 = 3) :
    Calls Try.prog 18 #[.pointer (some ⟨fg, 0, none⟩), .pointer (some ⟨rf, 0, none⟩), .agg #[.int .u8 k, .int .i64 i, .int .i64 n, .int .u8 x0, .int .i64 x1, .int .i64 x2]] W fun e W' => Does w fg rf c d e W' := by
  have HI := Lib.hid hi
  have HN := Lib.hid hn
  have HV := Lib.hid hv
  have y0 : 0 ≤ x0 := hv.1.1
  have y1 : x0 ≤ 255 := hv.1.2
  obtain ⟨k0, k1⟩ := hk
  have hp := h.alloc (.cells #[.int .u8 k, .int .i64 i, .int .i64 n, .int .u8 x0, .int .i64 x1, .int .i64 x2] 51)
  have hb := Blk.new W #[.int .u8 k, .int .i64 i, .int .i64 n, .int .u8 x0, .int .i64 x1, .int .i64 x2] 51
  have HB := Lib.hid hb
  have HP := Lib.hid (hp.less (K' := fun b => b = W.heap.size) (fun b e => .inr e))
  have t0 : (k % 7 == 0) = false := by rw [beq_eq_false_iff_ne]; omega
  have t1 : (k % 7 == 1) = false := by rw [beq_eq_false_iff_ne]; omega
  have t2 : (k % 7 == 2) = false := by rw [beq_eq_false_iff_ne]; omega
  have t3 : (k % 7 == 3) = true := beq_iff_eq.2 hkk
  have t4 : (k % 7 == 4) = false := by rw [beq_eq_false_iff_ne]; omega
  have t5 : (k % 7 == 5) = false := by rw [beq_eq_false_iff_ne]; omega
  clear h hp hb hi hn hv hkk
  go_enter Try.func18, Try.ntmps18
  go_wp2_with fail
  obtain ⟨X, hX⟩ : ∃ X, W.alloc (.cells #[.int .u8 k, .int .i64 i, .int .i64 n, .int .u8 x0, .int .i64 x1, .int .i64 x2] 51) = X := ⟨_, rfl⟩
  obtain ⟨bx, hbx⟩ : ∃ bx, W.heap.size = bx := ⟨_, rfl⟩
  rw [hX, hbx] at HB HP
  rw [hX]
  try rw [hbx]
  clear hX hbx
  have HD := Lib.hid HP.out.drew
  have HBD := Lib.hid HB.out.drew
  have hb := HB.out
  have a0 : X.cell? ⟨bx, 0, none⟩ = some (.int .u8 k) := hb.c 0 _ rfl
  have a1 : X.cell? ⟨bx, 1, none⟩ = some (.int .i64 i) := hb.c 1 _ rfl
  have a2 : X.cell? ⟨bx, 2, none⟩ = some (.int .i64 n) := hb.c 2 _ rfl
  have a3 : X.cell? ⟨bx, 3, none⟩ = some (.int .u8 x0) := hb.c 3 _ rfl
  have a4 : X.cell? ⟨bx, 4, none⟩ = some (.int .i64 x1) := hb.c 4 _ rfl
  have a5 : X.cell? ⟨bx, 5, none⟩ = some (.int .i64 x2) := hb.c 5 _ rfl
  have hal : bx < X.heap.size := hb.l
  clear hb
  go_region_held3 (fun w' => w'.cell? ⟨bx, 1, none⟩ = some (.int .i64 i) ∧ w'.cell? ⟨bx, 3, none⟩ = some (.int .u8 x0) ∧ w'.cell? ⟨bx, 4, none⟩ = some (.int .i64 x1) ∧ w'.cell? ⟨bx, 5, none⟩ = some (.int .i64 x2))
    ((first | (with_reducible exact hkeep) | (with_reducible exact hkeep2) | (refine ⟨?_, ?_, ?_, ?_⟩ <;> simp [*]) | fail))
    (first
      | (go_at_call 11; refine (po_push HD.out (x0, x1, x2) HV.out).mono ?_; rintro e w4 ⟨rfl, h4⟩
         have hb4 := h4.blk HBD.out rfl
         have hkeep : w4.cell? ⟨bx, 1, none⟩ = some (.int .i64 i) ∧ w4.cell? ⟨bx, 3, none⟩ = some (.int .u8 x0) ∧ w4.cell? ⟨bx, 4, none⟩ = some (.int .i64 x1) ∧ w4.cell? ⟨bx, 5, none⟩ = some (.int .i64 x2) := ⟨hb4.c 1 _ rfl, hb4.c 3 _ rfl, hb4.c 4 _ rfl, hb4.c 5 _ rfl⟩
         have H4 := Lib.hid h4
         have HB4 := Lib.hid hb4
         clear h4 hb4)
      | (go_at_call 28; refine (po_rpush H4.out.1 (x0, x1, x2) HV.out).mono ?_; rintro e w5 ⟨rfl, h5⟩
         have hb5 := h5.blk HB4.out rfl
         have hkeep2 : w5.cell? ⟨bx, 1, none⟩ = some (.int .i64 i) ∧ w5.cell? ⟨bx, 3, none⟩ = some (.int .u8 x0) ∧ w5.cell? ⟨bx, 4, none⟩ = some (.int .i64 x1) ∧ w5.cell? ⟨bx, 5, none⟩ = some (.int .i64 x2) := ⟨hb5.c 1 _ rfl, hb5.c 3 _ rfl, hb5.c 4 _ rfl, hb5.c 5 _ rfl⟩
         have H5 := Lib.hid h5
         clear h5 hb5)
      | fail)
  have HP2 := Lib.hid H5.out.1
  clear H4 H5 HD HBD hkeep hkeep2
  go_wp2_with fail
  go_ret
  exact ⟨rfl, _, (HP2.out.mono (by omega) (by omega)).less (fun b e => e.elim)⟩
set_option maxRecDepth 100000 in
set_option maxHeartbeats 2000000 in
theorem does_4 (h : PO w W fg rf c d F F (fun _ => False)) (k i n x0 x1 x2 : Int) (hk : 0 ≤ k ∧ k ≤ 255) (hi : I64 i) (hn : I64 n) (hv : VOk (x0, x1, x2)) (hc : c < 100000) (hd : d < 100000) (hkk : k % 7 = 4) :
    Calls Try.prog 18 #[.pointer (some ⟨fg, 0, none⟩), .pointer (some ⟨rf, 0, none⟩), .agg #[.int .u8 k, .int .i64 i, .int .i64 n, .int .u8 x0, .int .i64 x1, .int .i64 x2]] W fun e W' => Does w fg rf c d e W' := by
  have HI := Lib.hid hi
  have HN := Lib.hid hn
  have HV := Lib.hid hv
  have y0 : 0 ≤ x0 := hv.1.1
  have y1 : x0 ≤ 255 := hv.1.2
  obtain ⟨k0, k1⟩ := hk
  have hp := h.alloc (.cells #[.int .u8 k, .int .i64 i, .int .i64 n, .int .u8 x0, .int .i64 x1, .int .i64 x2] 51)
  have hb := Blk.new W #[.int .u8 k, .int .i64 i, .int .i64 n, .int .u8 x0, .int .i64 x1, .int .i64 x2] 51
  have HB := Lib.hid hb
  have HP := Lib.hid (hp.less (K' := fun b => b = W.heap.size) (fun b e => .inr e))
  have t0 : (k % 7 == 0) = false := by rw [beq_eq_false_iff_ne]; omega
  have t1 : (k % 7 == 1) = false := by rw [beq_eq_false_iff_ne]; omega
  have t2 : (k % 7 == 2) = false := by rw [beq_eq_false_iff_ne]; omega
  have t3 : (k % 7 == 3) = false := by rw [beq_eq_false_iff_ne]; omega
  have t4 : (k % 7 == 4) = true := beq_iff_eq.2 hkk
  have t5 : (k % 7 == 5) = false := by rw [beq_eq_false_iff_ne]; omega
  clear h hp hb hi hn hv hkk
  go_enter Try.func18, Try.ntmps18
  go_wp2_with fail
  obtain ⟨X, hX⟩ : ∃ X, W.alloc (.cells #[.int .u8 k, .int .i64 i, .int .i64 n, .int .u8 x0, .int .i64 x1, .int .i64 x2] 51) = X := ⟨_, rfl⟩
  obtain ⟨bx, hbx⟩ : ∃ bx, W.heap.size = bx := ⟨_, rfl⟩
  rw [hX, hbx] at HB HP
  rw [hX]
  try rw [hbx]
  clear hX hbx
  refine (po_pop HP.out x0 ⟨y0, y1⟩).mono ?_
  rintro e W1 ⟨rfl, hf⟩
  have hb := hf.blk HB.out rfl
  have a0 : W1.cell? ⟨bx, 0, none⟩ = some (.int .u8 k) := hb.c 0 _ rfl
  have a1 : W1.cell? ⟨bx, 1, none⟩ = some (.int .i64 i) := hb.c 1 _ rfl
  have a2 : W1.cell? ⟨bx, 2, none⟩ = some (.int .i64 n) := hb.c 2 _ rfl
  have a3 : W1.cell? ⟨bx, 3, none⟩ = some (.int .u8 x0) := hb.c 3 _ rfl
  have a4 : W1.cell? ⟨bx, 4, none⟩ = some (.int .i64 x1) := hb.c 4 _ rfl
  have a5 : W1.cell? ⟨bx, 5, none⟩ = some (.int .i64 x2) := hb.c 5 _ rfl
  have hal : bx < W1.heap.size := hb.l
  have hp := hf.1.alloc (.cells #[.int .u8 (popV F x0).1, .int .i64 (popV F x0).2.1, .int .i64 (popV F x0).2.2] 37)
  have hv1 := Blk.new W1 #[.int .u8 (popV F x0).1, .int .i64 (popV F x0).2.1, .int .i64 (popV F x0).2.2] 37
  have HBV := Lib.hid hv1
  have hgg := po_rpop hp x0 ⟨y0, y1⟩
  unfold vagg at hgg ⊢
  generalize (popV F x0).1 = z0 at *
  generalize (popV F x0).2.1 = z1 at *
  generalize (popV F x0).2.2 = z2 at *
  generalize popB F x0 = q at *
  have HG := Lib.hid hgg
  clear hp hf hv1 hgg hb
  go_wp2_with fail
  obtain ⟨bv, hbv⟩ : ∃ bv, W1.heap.size = bv := ⟨_, rfl⟩
  obtain ⟨X1, hX1⟩ : ∃ X1, W1.alloc (.cells #[.int .u8 z0, .int .i64 z1, .int .i64 z2] 37) = X1 := ⟨_, rfl⟩
  rw [hX1] at HG HBV ⊢
  rw [hbv] at HBV HG
  try rw [hbv]
  clear hX1 hbv a0 a1 a2 a3 a4 a5 hal
  refine HG.out.mono ?_
  rintro e W2 ⟨rfl, hf2⟩
  have hv2 := hf2.blk HBV.out (.inr rfl)
  have v0 : W2.cell? ⟨bv, 0, none⟩ = some (.int .u8 z0) := hv2.c 0 _ rfl
  have v1 : W2.cell? ⟨bv, 1, none⟩ = some (.int .i64 z1) := hv2.c 1 _ rfl
  have v2 : W2.cell? ⟨bv, 2, none⟩ = some (.int .i64 z2) := hv2.c 2 _ rfl
  have hvl := hv2.l
  have HP := Lib.hid hf2.1
  have hq := fun W => val_eql z0 z1 z2 z0 z1 z2 W true (by simp)
  clear hf2 hv2 HBV HG HB
  go_wp2_with fail
  go_ret
  exact ⟨rfl, _, ((HP.out.below ((Below.refl _ _).alloc (Nat.le_refl _) _)).mono (by omega) (by omega)).less (fun b e => e.elim)⟩
set_option maxRecDepth 100000 in
set_option maxHeartbeats 2000000 in
theorem does_5 (h : PO w W fg rf c d F F (fun _ => False)) (k i n x0 x1 x2 : Int) (hk : 0 ≤ k ∧ k ≤ 255) (hi : I64 i) (hn : I64 n) (hv : VOk (x0, x1, x2)) (hc : c < 100000) (hd : d < 100000) (hkk : k % 7 = 5) :
    Calls Try.prog 18 #[.pointer (some ⟨fg, 0, none⟩), .pointer (some ⟨rf, 0, none⟩), .agg #[.int .u8 k, .int .i64 i, .int .i64 n, .int .u8 x0, .int .i64 x1, .int .i64 x2]] W fun e W' => Does w fg rf c d e W' := by
  have HI := Lib.hid hi
  have HN := Lib.hid hn
  have HV := Lib.hid hv
  have y0 : 0 ≤ x0 := hv.1.1
  have y1 : x0 ≤ 255 := hv.1.2
  obtain ⟨k0, k1⟩ := hk
  have hp := h.alloc (.cells #[.int .u8 k, .int .i64 i, .int .i64 n, .int .u8 x0, .int .i64 x1, .int .i64 x2] 51)
  have hb := Blk.new W #[.int .u8 k, .int .i64 i, .int .i64 n, .int .u8 x0, .int .i64 x1, .int .i64 x2] 51
  have HB := Lib.hid hb
  have HP := Lib.hid (hp.less (K' := fun b => b = W.heap.size) (fun b e => .inr e))
  have t0 : (k % 7 == 0) = false := by rw [beq_eq_false_iff_ne]; omega
  have t1 : (k % 7 == 1) = false := by rw [beq_eq_false_iff_ne]; omega
  have t2 : (k % 7 == 2) = false := by rw [beq_eq_false_iff_ne]; omega
  have t3 : (k % 7 == 3) = false := by rw [beq_eq_false_iff_ne]; omega
  have t4 : (k % 7 == 4) = false := by rw [beq_eq_false_iff_ne]; omega
  have t5 : (k % 7 == 5) = true := beq_iff_eq.2 hkk
  clear h hp hb hi hn hv hkk
  go_enter Try.func18, Try.ntmps18
  go_wp2_with fail
  obtain ⟨X, hX⟩ : ∃ X, W.alloc (.cells #[.int .u8 k, .int .i64 i, .int .i64 n, .int .u8 x0, .int .i64 x1, .int .i64 x2] 51) = X := ⟨_, rfl⟩
  obtain ⟨bx, hbx⟩ : ∃ bx, W.heap.size = bx := ⟨_, rfl⟩
  rw [hX, hbx] at HB HP
  rw [hX]
  try rw [hbx]
  clear hX hbx
  refine (po_begin HP.out i n HI.out HN.out (by omega)).mono ?_
  rintro e W1 ⟨rfl, hf⟩
  have hb := hf.blk HB.out rfl
  have a0 : W1.cell? ⟨bx, 0, none⟩ = some (.int .u8 k) := hb.c 0 _ rfl
  have a1 : W1.cell? ⟨bx, 1, none⟩ = some (.int .i64 i) := hb.c 1 _ rfl
  have a2 : W1.cell? ⟨bx, 2, none⟩ = some (.int .i64 n) := hb.c 2 _ rfl
  have a3 : W1.cell? ⟨bx, 3, none⟩ = some (.int .u8 x0) := hb.c 3 _ rfl
  have a4 : W1.cell? ⟨bx, 4, none⟩ = some (.int .i64 x1) := hb.c 4 _ rfl
  have a5 : W1.cell? ⟨bx, 5, none⟩ = some (.int .i64 x2) := hb.c 5 _ rfl
  have hal : bx < W1.heap.size := hb.l
  have HB := Lib.hid hb
  have HP := Lib.hid hf.1
  clear hf hb
  go_wp2_with fail
  refine (po_rbegin HP.out i n HI.out HN.out (by omega)).mono ?_
  rintro e W2 ⟨rfl, hf⟩
  have hb := hf.blk HB.out rfl
  have a0 : W2.cell? ⟨bx, 0, none⟩ = some (.int .u8 k) := hb.c 0 _ rfl
  have a1 : W2.cell? ⟨bx, 1, none⟩ = some (.int .i64 i) := hb.c 1 _ rfl
  have a2 : W2.cell? ⟨bx, 2, none⟩ = some (.int .i64 n) := hb.c 2 _ rfl
  have a3 : W2.cell? ⟨bx, 3, none⟩ = some (.int .u8 x0) := hb.c 3 _ rfl
  have a4 : W2.cell? ⟨bx, 4, none⟩ = some (.int .i64 x1) := hb.c 4 _ rfl
  have a5 : W2.cell? ⟨bx, 5, none⟩ = some (.int .i64 x2) := hb.c 5 _ rfl
  have hal : bx < W2.heap.size := hb.l
  have HB := Lib.hid hb
  have HP := Lib.hid hf.1
  clear hf hb
  go_wp2_with fail
  refine (po_go HP.out n).mono ?_
  rintro e W3 ⟨rfl, hf⟩
  have hb := hf.blk HB.out rfl
  have a0 : W3.cell? ⟨bx, 0, none⟩ = some (.int .u8 k) := hb.c 0 _ rfl
  have a1 : W3.cell? ⟨bx, 1, none⟩ = some (.int .i64 i) := hb.c 1 _ rfl
  have a2 : W3.cell? ⟨bx, 2, none⟩ = some (.int .i64 n) := hb.c 2 _ rfl
  have a3 : W3.cell? ⟨bx, 3, none⟩ = some (.int .u8 x0) := hb.c 3 _ rfl
  have a4 : W3.cell? ⟨bx, 4, none⟩ = some (.int .i64 x1) := hb.c 4 _ rfl
  have a5 : W3.cell? ⟨bx, 5, none⟩ = some (.int .i64 x2) := hb.c 5 _ rfl
  have hal : bx < W3.heap.size := hb.l
  have hpl := hf.1.place
  obtain ⟨p0, p1, p2⟩ := hpl
  have HP := Lib.hid (hf.1.rgo n).1
  clear hf hb
  go_wp2_with fail
  go_ret
  exact ⟨rfl, _, HP.out.less (fun b e => e.elim)⟩
set_option maxRecDepth 100000 in
set_option maxHeartbeats 2000000 in
theorem does_6 (h : PO w W fg rf c d F F (fun _ => False)) (k i n x0 x1 x2 : Int) (hk : 0 ≤ k ∧ k ≤ 255) (hi : I64 i) (hn : I64 n) (hv : VOk (x0, x1, x2)) (hc : c < 100000) (hd : d < 100000) (hkk : k % 7 = 6) :
    Calls Try.prog 18 #[.pointer (some ⟨fg, 0, none⟩), .pointer (some ⟨rf, 0, none⟩), .agg #[.int .u8 k, .int .i64 i, .int .i64 n, .int .u8 x0, .int .i64 x1, .int .i64 x2]] W fun e W' => Does w fg rf c d e W' := by
  have HI := Lib.hid hi
  have HN := Lib.hid hn
  have HV := Lib.hid hv
  have y0 : 0 ≤ x0 := hv.1.1
  have y1 : x0 ≤ 255 := hv.1.2
  obtain ⟨k0, k1⟩ := hk
  have hp := h.alloc (.cells #[.int .u8 k, .int .i64 i, .int .i64 n, .int .u8 x0, .int .i64 x1, .int .i64 x2] 51)
  have hb := Blk.new W #[.int .u8 k, .int .i64 i, .int .i64 n, .int .u8 x0, .int .i64 x1, .int .i64 x2] 51
  have HB := Lib.hid hb
  have HP := Lib.hid (hp.less (K' := fun b => b = W.heap.size) (fun b e => .inr e))
  have t0 : (k % 7 == 0) = false := by rw [beq_eq_false_iff_ne]; omega
  have t1 : (k % 7 == 1) = false := by rw [beq_eq_false_iff_ne]; omega
  have t2 : (k % 7 == 2) = false := by rw [beq_eq_false_iff_ne]; omega
  have t3 : (k % 7 == 3) = false := by rw [beq_eq_false_iff_ne]; omega
  have t4 : (k % 7 == 4) = false := by rw [beq_eq_false_iff_ne]; omega
  have t5 : (k % 7 == 5) = false := by rw [beq_eq_false_iff_ne]; omega
  clear h hp hb hi hn hv hkk
  go_enter Try.func18, Try.ntmps18
  go_wp2_with fail
  obtain ⟨X, hX⟩ : ∃ X, W.alloc (.cells #[.int .u8 k, .int .i64 i, .int .i64 n, .int .u8 x0, .int .i64 x1, .int .i64 x2] 51) = X := ⟨_, rfl⟩
  obtain ⟨bx, hbx⟩ : ∃ bx, W.heap.size = bx := ⟨_, rfl⟩
  rw [hX, hbx] at HB HP
  rw [hX]
  try rw [hbx]
  clear hX hbx
  refine (po_again HP.out i HI.out (by omega)).mono ?_
  rintro e W1 ⟨rfl, hf⟩
  have hb := hf.blk HB.out rfl
  have a0 : W1.cell? ⟨bx, 0, none⟩ = some (.int .u8 k) := hb.c 0 _ rfl
  have a1 : W1.cell? ⟨bx, 1, none⟩ = some (.int .i64 i) := hb.c 1 _ rfl
  have a2 : W1.cell? ⟨bx, 2, none⟩ = some (.int .i64 n) := hb.c 2 _ rfl
  have a3 : W1.cell? ⟨bx, 3, none⟩ = some (.int .u8 x0) := hb.c 3 _ rfl
  have a4 : W1.cell? ⟨bx, 4, none⟩ = some (.int .i64 x1) := hb.c 4 _ rfl
  have a5 : W1.cell? ⟨bx, 5, none⟩ = some (.int .i64 x2) := hb.c 5 _ rfl
  have hal : bx < W1.heap.size := hb.l
  have HB := Lib.hid hb
  have HP := Lib.hid hf.1
  clear hf hb
  go_wp2_with fail
  refine (po_ragain HP.out i HI.out (by omega)).mono ?_
  rintro e W2 ⟨rfl, hf⟩
  have HP := Lib.hid hf.1
  clear hf
  generalize decide (1 < F.turns i) = q1 at *
  generalize decide (0 < F.turns i) = q2 at *
  go_wp2_with fail
  go_ret
  exact ⟨rfl, _, HP.out.less (fun b e => e.elim)⟩
end
end Go.Proofs.Ythllfeogchbihaa
