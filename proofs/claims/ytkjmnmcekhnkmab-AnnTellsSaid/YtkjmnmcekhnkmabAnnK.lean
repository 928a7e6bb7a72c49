/- Announcements: when entries are the same (the references' Same, SameEntry), by their contents. -/
import Derived.Test.YtkjmnmcekhnkmabAnnJ
import Derived.Laws.BytesArg
namespace Go.Proofs.Ytkjmnmcekhnkmab
open Go.RowKit Go.Shelf
set_option linter.unusedSimpArgs false
set_option linter.unusedVariables false

abbrev Val3 := Int × Int × Int
/-- The values' cells. -/
def ValsAt (W : World) (A : Option Addr) (vs : List Val3) : Prop :=
  ∀ j, j < vs.length → ∃ b off, A = some ⟨b, off, none⟩ ∧ W.cell? ⟨b, off + j * 3, none⟩ = some (.int .u8 (vs[j]?.getD (0, 0, 0)).1) ∧
    W.cell? ⟨b, off + j * 3 + 1, none⟩ = some (.int .i64 (vs[j]?.getD (0, 0, 0)).2.1) ∧ W.cell? ⟨b, off + j * 3 + 2, none⟩ = some (.int .i64 (vs[j]?.getD (0, 0, 0)).2.2)
/-- The bytes' cells. -/
def BytesAt (W : World) (A : Option Addr) (bs : List Int) : Prop :=
  ∀ j, j < bs.length → ∃ b off, A = some ⟨b, off, none⟩ ∧ W.cell? ⟨b, off + j, none⟩ = some (.int .u8 (bs[j]?.getD 0))
theorem ValsAt.below {V W : World} {A : Option Addr} {vs : List Val3} (hb : Below V.heap.size V W) (h : ValsAt V A vs) : ValsAt W A vs := fun j hj => by
  obtain ⟨b, off, e, h0, h1, h2⟩ := h j hj
  have hl : b < V.heap.size := World.block_lt_of_cell? V ⟨b, off + j * 3, none⟩ h0
  exact ⟨b, off, e, (hb.cell (p := ⟨b, off + j * 3, none⟩) hl).trans h0, (hb.cell (p := ⟨b, off + j * 3 + 1, none⟩) hl).trans h1, (hb.cell (p := ⟨b, off + j * 3 + 2, none⟩) hl).trans h2⟩
theorem BytesAt.below {V W : World} {A : Option Addr} {bs : List Int} (hb : Below V.heap.size V W) (h : BytesAt V A bs) : BytesAt W A bs := fun j hj => by
  obtain ⟨b, off, e, h0⟩ := h j hj
  have hl : b < V.heap.size := World.block_lt_of_cell? V ⟨b, off + j, none⟩ h0
  exact ⟨b, off, e, (hb.cell (p := ⟨b, off + j, none⟩) hl).trans h0⟩
theorem ValsAt.drewN {V : World} {A : Option Addr} {vs : List Val3} (h : ValsAt V A vs) (k : Nat) : ValsAt (V.drewN k) A vs := fun j hj => by
  obtain ⟨b, off, e, h0, h1, h2⟩ := h j hj
  exact ⟨b, off, e, by simpa using h0, by simpa using h1, by simpa using h2⟩
theorem BytesAt.drewN {V : World} {A : Option Addr} {bs : List Int} (h : BytesAt V A bs) (k : Nat) : BytesAt (V.drewN k) A bs := fun j hj => by
  obtain ⟨b, off, e, h0⟩ := h j hj
  exact ⟨b, off, e, by simpa using h0⟩

theorem val_eq (a b c a' b' c' : Int) (w : World) : (Op.equalIn 10000 68 (.agg #[.int .u8 a, .int .i64 b, .int .i64 c]) (.agg #[.int .u8 a', .int .i64 b', .int .i64 c'])).run Try.prog w = .ok (decide ((a, b, c) = (a', b', c'))) w := by
  simp [go_sem]
  split
  · split
    · split <;> simp_all
    · simp_all
  · simp_all
theorem val_neq (a b c a' b' c' : Int) (w : World) (q : Bool) (h : decide ((a, b, c) = (a', b', c')) = q) : (binOp .neq 68 (.agg #[.int .u8 a, .int .i64 b, .int .i64 c]) (.agg #[.int .u8 a', .int .i64 b', .int .i64 c'])).run Try.prog w = .ok (.bool (!q)) w := by
  rw [run_neq_struct, val_eq, h]
  rfl

set_option maxHeartbeats 1000000 in
theorem sameVals_any (A A' : Option Addr) (m ca m' ca' : Nat) (u v : List Val3) (w : World) (hu : u.length = m) (hv : v.length = m') (hm : m ≤ 3000) (hm' : m' ≤ 3000) (ha : ValsAt w A u) (hb : ValsAt w A' v) :
    Calls Try.prog 56 #[.slice A m ca, .slice A' m' ca'] w fun e w' => e = .returned (.bool (decide (u = v))) ∧ ∃ k, w' = w.drewN k := by
  by_cases hmm : m = m'
  · subst hmm
    have HU := Lib.hid hu
    have HV := Lib.hid hv
    have HA := Lib.hid ha
    have HB := Lib.hid hb
    clear hu hv ha hb
    go_enter Try.func56, Try.ntmps56
    go_wp2_with fail
    go_loopw [5] (fun i wr => ∃ k q : Nat, k ≤ m ∧ i = .int .i64 k ∧ (∀ j, j < k → u[j]? = v[j]?) ∧ wr = w.drewN q) (fun i _ => m - (intOf i).toNat)
    case atStart => exact ⟨0, 0, by omega, rfl, fun j hj => by omega, rfl⟩
    case round =>
      obtain ⟨k, q, hk, rfl, hs, rfl⟩ := hrel
      have HS := Lib.hid hs
      clear hs
      by_cases hlt : k < m
      · obtain ⟨b, off, rfl, c0, c1, c2⟩ := HA.out k (by rw [HU.out]; exact hlt)
        obtain ⟨b', off', rfl, d0, d1, d2⟩ := HB.out k (by rw [HV.out]; exact hlt)
        obtain ⟨x, hx⟩ : ∃ x, u[k]?.getD (0, 0, 0) = x := ⟨_, rfl⟩
        obtain ⟨y, hy⟩ : ∃ y, v[k]?.getD (0, 0, 0) = y := ⟨_, rfl⟩
        rw [hx] at c0 c1 c2
        rw [hy] at d0 d1 d2
        have HX := Lib.hid hx
        have HY := Lib.hid hy
        obtain ⟨x0, x1, x2⟩ := x
        obtain ⟨y0, y1, y2⟩ := y
        simp only at c0 c1 c2 d0 d1 d2
        clear hx hy
        by_cases hxy : (x0, x1, x2) = (y0, y1, y2)
        · have hn := fun W => val_neq x0 x1 x2 y0 y1 y2 W true (decide_eq_true hxy)
          have HXY := Lib.hid hxy
          clear hxy
          go_wp2_with fail
          go_quiet (fail)
          go_wp2_with fail
          go_roundw
          case rel =>
            refine ⟨k + 1, _, by omega, by go_num, fun j hj => ?_, by first | rfl | rw [World.drewN_drewN]⟩
            by_cases e : j = k
            · subst e
              have h1 := HX.out
              have h2 := HY.out
              rw [List.getElem?_eq_getElem (by rw [HU.out]; exact hlt)] at h1 ⊢
              rw [List.getElem?_eq_getElem (by rw [HV.out]; exact hlt)] at h2 ⊢
              simp only [Option.getD_some] at h1 h2
              rw [h1, h2, HXY.out]
            · exact HS.out j (by omega)
          case measure => simp [intOf]; omega
        · have hn := fun W => val_neq x0 x1 x2 y0 y1 y2 W false (decide_eq_false hxy)
          have HXY : Hid (¬ (x0, x1, x2) = (y0, y1, y2)) := Lib.hid hxy
          clear hxy
          go_wp2_with fail
          go_quiet (fail)
          go_wp2_with fail
          go_ret
          refine ⟨an_bool ?_, _, by rw [World.drewN_drewN]⟩
          symm
          rw [decide_eq_false_iff_not]
          intro e
          apply HXY.out
          rw [← HX.out, ← HY.out, e]
      · have huv : decide (u = v) = true := by
          rw [decide_eq_true_iff]
          apply List.ext_getElem?
          intro i
          by_cases hi : i < k
          · exact HS.out i hi
          · rw [List.getElem?_eq_none (by rw [HU.out]; omega), List.getElem?_eq_none (by rw [HV.out]; omega)]
        have HUV := Lib.hid huv
        clear huv
        go_wp2_with fail
        go_ret
        exact ⟨an_bool HUV.out.symm, _, rfl⟩
  · have h1 : ((m : Int) == (m' : Int)) = false := by rw [beq_eq_false_iff_ne]; omega
    have h2 : ((m : Int) != (m' : Int)) = true := by simp; omega
    have h3 : decide (u = v) = false := by
      rw [decide_eq_false_iff_not]
      intro e
      rw [e] at hu
      omega
    rw [h3]
    clear h3 hmm ha hb hu hv
    go_enter Try.func56, Try.ntmps56
    go_wp2_with fail
    go_ret
    exact ⟨rfl, 0, rfl⟩

theorem strOf_inj {x y : List Int} (hx : ∀ b ∈ x, 0 ≤ b ∧ b ≤ 255) (hy : ∀ b ∈ y, 0 ≤ b ∧ b ≤ 255) (h : strOfNums x = strOfNums y) : x = y := by
  have h : (x.map fun n => UInt8.ofNat n.toNat) = (y.map fun n => UInt8.ofNat n.toNat) := by
    have := congrArg (fun s : ByteArray => s.data.toList) h
    simpa [strOfNums] using this
  have inj : ∀ (x y : List Int), (∀ b ∈ x, 0 ≤ b ∧ b ≤ 255) → (∀ b ∈ y, 0 ≤ b ∧ b ≤ 255) → (x.map fun n => UInt8.ofNat n.toNat) = (y.map fun n => UInt8.ofNat n.toNat) → x = y := by
    intro x
    induction x with
    | nil => intro y _ _ h; cases y with | nil => rfl | cons _ _ => simp at h
    | cons a x ih =>
      intro y hx hy h
      cases y with
      | nil => simp at h
      | cons b y =>
        simp only [List.map_cons, List.cons.injEq] at h
        have h1 := hx a List.mem_cons_self
        have h2 := hy b List.mem_cons_self
        have h3 := congrArg UInt8.toNat h.1
        simp only [UInt8.toNat_ofNat'] at h3
        have h4 : a.toNat % 256 = b.toNat % 256 := h3
        rw [ih y (fun c hc => hx c (List.mem_cons_of_mem _ hc)) (fun c hc => hy c (List.mem_cons_of_mem _ hc)) h.2]
        congr 1
        omega
  exact inj x y hx hy h

theorem str_run (B : Option Addr) (n cb : Nat) (bs : List Int) (w : World) (hl : bs.length = n) (h : BytesAt w B bs) (h0 : B = none → n = 0) : (convert 54 9 (.slice B n cb)).run Try.prog w = .ok (.string (strOfNums bs)) w := by
  match B with
  | none =>
    have := h0 rfl
    rw [run_convert_bytes_nil w 54 5 Try.underlying54 Try.underlying5 n cb 9 Try.underlying9]
    obtain rfl : bs = [] := List.length_eq_zero_iff.1 (by omega)
    rfl
  | some a =>
    by_cases hn : n = 0
    · subst hn
      obtain rfl : bs = [] := List.length_eq_zero_iff.1 (by omega)
      rw [run_convert_bytes_string w 54 9 5 _ _ _ Try.underlying54 Try.underlying5 Try.underlying9, run_bytesToString w a 0 cb [] (by simpa using run_loadCells_list (P := Try.prog) w a [] (fun j v hj => by simp at hj))]
      rfl
    · obtain ⟨b, off, e, -⟩ := h 0 (by omega)
      injection e with e
      subst e
      refine run_convert_bytes_arg w 54 5 Try.underlying54 Try.underlying5 b off n cb bs hl (fun i hi => ?_) 9 Try.underlying9
      obtain ⟨b', off', e, hc⟩ := h i (by omega)
      injection e with e
      injection e with e1 e2
      subst e1 e2
      rw [hc, List.getD_eq_getElem?_getD]

theorem bytes_toList_inj {a b : ByteArray} (h : a.toList = b.toList) : a = b := by
  rw [ByteArray.toList_eq, ByteArray.toList_eq] at h
  apply ByteArray.ext
  exact Array.ext' h

/-- An operation's contents. -/
structure OpAt (W : World) (A : Option Addr) (m : Nat) (B : Option Addr) (n : Nat) (u : List Val3) (x : List Int) : Prop where
  na : A = none → m = 0
  nb : B = none → n = 0
  lu : u.length = m
  lx : x.length = n
  ma : m ≤ 3000
  mb : n ≤ 3000
  va : ValsAt W A u
  vb : BytesAt W B x
  rx : ∀ b ∈ x, 0 ≤ b ∧ b ≤ 255
theorem OpAt.below {V W : World} {A : Option Addr} {m : Nat} {B : Option Addr} {n : Nat} {u : List Val3} {x : List Int} (hb : Below V.heap.size V W) (h : OpAt V A m B n u x) : OpAt W A m B n u x :=
  { h with va := h.va.below hb, vb := h.vb.below hb }
theorem OpAt.drewN {V : World} {A : Option Addr} {m : Nat} {B : Option Addr} {n : Nat} {u : List Val3} {x : List Int} (h : OpAt V A m B n u x) (k : Nat) : OpAt (V.drewN k) A m B n u x :=
  { h with va := h.va.drewN k, vb := h.vb.drewN k }

def sameOpB (k me k' me' : Int) (u u' : List Val3) (x x' : List Int) : Bool := decide (k = k') && (decide (me = me') && (decide (u = u') && decide (x = x')))

set_option maxRecDepth 100000 in
set_option maxHeartbeats 4000000 in
theorem same_any (k me k' me' : Int) (A B A' B' : Option Addr) (m ca n cb m' ca' n' cb' : Nat) (u u' : List Val3) (x x' : List Int) (w : World) (h : OpAt w A m B n u x) (h' : OpAt w A' m' B' n' u' x') :
    Calls Try.prog 48 #[.agg #[.int .u8 k, .int .i64 me, .slice A m ca, .slice B n cb], .agg #[.int .u8 k', .int .i64 me', .slice A' m' ca', .slice B' n' cb']] w fun e w' => e = .returned (.bool (sameOpB k me k' me' u u' x x')) ∧ Below w.heap.size w w' := by
  have hB0 : Below w.heap.size w ((w.alloc (.cells #[.int .u8 k, .int .i64 me, .slice A m ca, .slice B n cb] 56)).alloc (.cells #[.int .u8 k', .int .i64 me', .slice A' m' ca', .slice B' n' cb'] 56)) := by go_grown
  obtain ⟨W, hW⟩ : ∃ W, (w.alloc (.cells #[.int .u8 k, .int .i64 me, .slice A m ca, .slice B n cb] 56)).alloc (.cells #[.int .u8 k', .int .i64 me', .slice A' m' ca', .slice B' n' cb'] 56) = W := ⟨_, rfl⟩
  have b0 : Blk W w.heap.size [.int .u8 k, .int .i64 me, .slice A m ca, .slice B n cb] := by rw [← hW]; exact (Blk.new w _ _).alloc _
  have b1 : Blk W (w.heap.size + 1) [.int .u8 k', .int .i64 me', .slice A' m' ca', .slice B' n' cb'] := by
    rw [← hW]
    have := Blk.new (w.alloc (.cells #[.int .u8 k, .int .i64 me, .slice A m ca, .slice B n cb] 56)) #[.int .u8 k', .int .i64 me', .slice A' m' ca', .slice B' n' cb'] 56
    simpa using this
  rw [hW] at hB0
  have HO := Lib.hid (h.below hB0)
  have HO' := Lib.hid (h'.below hB0)
  have HW := Lib.hid hW
  clear h h' hW
  unfold sameOpB
  by_cases hk : k = k'
  · have e1 : (k == k') = true := by rw [beq_iff_eq]; exact hk
    rw [decide_eq_true hk, Bool.true_and]
    clear hk
    by_cases hme : me = me'
    · have e2 : (me == me') = true := by rw [beq_iff_eq]; exact hme
      rw [decide_eq_true hme, Bool.true_and]
      clear hme
      have hsv := sameVals_any A A' m ca m' ca' u u' W HO.out.lu HO'.out.lu HO.out.ma HO'.out.ma HO.out.va HO'.out.va
      have HSV := Lib.hid hsv
      clear hsv
      cases huu : decide (u = u')
      · rw [huu] at HSV
        rw [Bool.false_and]
        clear huu
        go_enter Try.func48, Try.ntmps48
        go_wp2_with fail
        rw [HW.out]
        have d0 : W.cell? ⟨w.heap.size, 0, none⟩ = some (.int .u8 k) := b0.c 0 _ rfl
        have d1 : W.cell? ⟨w.heap.size, 1, none⟩ = some (.int .i64 me) := b0.c 1 _ rfl
        have d2 : W.cell? ⟨w.heap.size, 2, none⟩ = some (.slice A m ca) := b0.c 2 _ rfl
        have d3 : W.cell? ⟨w.heap.size, 3, none⟩ = some (.slice B n cb) := b0.c 3 _ rfl
        have f0 : W.cell? ⟨w.heap.size + 1, 0, none⟩ = some (.int .u8 k') := b1.c 0 _ rfl
        have f1 : W.cell? ⟨w.heap.size + 1, 1, none⟩ = some (.int .i64 me') := b1.c 1 _ rfl
        have f2 : W.cell? ⟨w.heap.size + 1, 2, none⟩ = some (.slice A' m' ca') := b1.c 2 _ rfl
        have f3 : W.cell? ⟨w.heap.size + 1, 3, none⟩ = some (.slice B' n' cb') := b1.c 3 _ rfl
        go_wp2_with fail
        refine HSV.out.mono ?_
        rintro e w' ⟨rfl, kq, rfl⟩
        go_wp2_with fail
        go_ret
        exact ⟨rfl, below_drewN hB0 _⟩
      · rw [huu] at HSV
        rw [Bool.true_and]
        clear huu
        have cv1 := fun j => str_run B n cb x (W.drewN j) HO.out.lx (HO.out.drewN j).vb HO.out.nb
        have cv2 := fun j => str_run B' n' cb' x' (W.drewN j) HO'.out.lx (HO'.out.drewN j).vb HO'.out.nb
        have hst : strOfNums x = strOfNums x' ↔ x = x' := ⟨strOf_inj HO.out.rx HO'.out.rx, fun e => by rw [e]⟩
        generalize strOfNums x = S1 at *
        generalize strOfNums x' = S2 at *
        have HST := Lib.hid hst
        clear hst
        by_cases hss : S1 = S2
        · rw [decide_eq_true (HST.out.1 hss)]
          have e4 : (S1.toList == S2.toList) = true := by rw [beq_iff_eq, hss]
          clear hss
          go_enter Try.func48, Try.ntmps48
          go_wp2_with fail
          rw [HW.out]
          have d0 : W.cell? ⟨w.heap.size, 0, none⟩ = some (.int .u8 k) := b0.c 0 _ rfl
          have d1 : W.cell? ⟨w.heap.size, 1, none⟩ = some (.int .i64 me) := b0.c 1 _ rfl
          have d2 : W.cell? ⟨w.heap.size, 2, none⟩ = some (.slice A m ca) := b0.c 2 _ rfl
          have d3 : W.cell? ⟨w.heap.size, 3, none⟩ = some (.slice B n cb) := b0.c 3 _ rfl
          have f0 : W.cell? ⟨w.heap.size + 1, 0, none⟩ = some (.int .u8 k') := b1.c 0 _ rfl
          have f1 : W.cell? ⟨w.heap.size + 1, 1, none⟩ = some (.int .i64 me') := b1.c 1 _ rfl
          have f2 : W.cell? ⟨w.heap.size + 1, 2, none⟩ = some (.slice A' m' ca') := b1.c 2 _ rfl
          have f3 : W.cell? ⟨w.heap.size + 1, 3, none⟩ = some (.slice B' n' cb') := b1.c 3 _ rfl
          go_wp2_with fail
          refine HSV.out.mono ?_
          rintro e w' ⟨rfl, kq, rfl⟩
          have cv3 := cv1 kq
          have cv4 := cv2 kq
          clear cv1 cv2
          go_wp2_with fail
          go_ret
          exact ⟨rfl, below_drewN hB0 _⟩
        · rw [decide_eq_false (fun e => hss (HST.out.2 e))]
          have e4 : (S1.toList == S2.toList) = false := by
            rw [beq_eq_false_iff_ne]
            exact fun e => hss (bytes_toList_inj e)
          clear hss
          go_enter Try.func48, Try.ntmps48
          go_wp2_with fail
          rw [HW.out]
          have d0 : W.cell? ⟨w.heap.size, 0, none⟩ = some (.int .u8 k) := b0.c 0 _ rfl
          have d1 : W.cell? ⟨w.heap.size, 1, none⟩ = some (.int .i64 me) := b0.c 1 _ rfl
          have d2 : W.cell? ⟨w.heap.size, 2, none⟩ = some (.slice A m ca) := b0.c 2 _ rfl
          have d3 : W.cell? ⟨w.heap.size, 3, none⟩ = some (.slice B n cb) := b0.c 3 _ rfl
          have f0 : W.cell? ⟨w.heap.size + 1, 0, none⟩ = some (.int .u8 k') := b1.c 0 _ rfl
          have f1 : W.cell? ⟨w.heap.size + 1, 1, none⟩ = some (.int .i64 me') := b1.c 1 _ rfl
          have f2 : W.cell? ⟨w.heap.size + 1, 2, none⟩ = some (.slice A' m' ca') := b1.c 2 _ rfl
          have f3 : W.cell? ⟨w.heap.size + 1, 3, none⟩ = some (.slice B' n' cb') := b1.c 3 _ rfl
          go_wp2_with fail
          refine HSV.out.mono ?_
          rintro e w' ⟨rfl, kq, rfl⟩
          have cv3 := cv1 kq
          have cv4 := cv2 kq
          clear cv1 cv2
          go_wp2_with fail
          go_ret
          exact ⟨rfl, below_drewN hB0 _⟩
    · have e2 : (me == me') = false := by rw [beq_eq_false_iff_ne]; exact hme
      rw [decide_eq_false hme, Bool.false_and]
      clear hme
      go_enter Try.func48, Try.ntmps48
      go_wp2_with fail
      rw [HW.out]
      have d0 : W.cell? ⟨w.heap.size, 0, none⟩ = some (.int .u8 k) := b0.c 0 _ rfl
      have d1 : W.cell? ⟨w.heap.size, 1, none⟩ = some (.int .i64 me) := b0.c 1 _ rfl
      have d2 : W.cell? ⟨w.heap.size, 2, none⟩ = some (.slice A m ca) := b0.c 2 _ rfl
      have d3 : W.cell? ⟨w.heap.size, 3, none⟩ = some (.slice B n cb) := b0.c 3 _ rfl
      have f0 : W.cell? ⟨w.heap.size + 1, 0, none⟩ = some (.int .u8 k') := b1.c 0 _ rfl
      have f1 : W.cell? ⟨w.heap.size + 1, 1, none⟩ = some (.int .i64 me') := b1.c 1 _ rfl
      have f2 : W.cell? ⟨w.heap.size + 1, 2, none⟩ = some (.slice A' m' ca') := b1.c 2 _ rfl
      have f3 : W.cell? ⟨w.heap.size + 1, 3, none⟩ = some (.slice B' n' cb') := b1.c 3 _ rfl
      go_wp2_with fail
      go_ret
      exact ⟨rfl, hB0⟩
  · have e1 : (k == k') = false := by rw [beq_eq_false_iff_ne]; exact hk
    rw [decide_eq_false hk, Bool.false_and]
    clear hk
    go_enter Try.func48, Try.ntmps48
    go_wp2_with fail
    rw [HW.out]
    have d0 : W.cell? ⟨w.heap.size, 0, none⟩ = some (.int .u8 k) := b0.c 0 _ rfl
    have d1 : W.cell? ⟨w.heap.size, 1, none⟩ = some (.int .i64 me) := b0.c 1 _ rfl
    have d2 : W.cell? ⟨w.heap.size, 2, none⟩ = some (.slice A m ca) := b0.c 2 _ rfl
    have d3 : W.cell? ⟨w.heap.size, 3, none⟩ = some (.slice B n cb) := b0.c 3 _ rfl
    have f0 : W.cell? ⟨w.heap.size + 1, 0, none⟩ = some (.int .u8 k') := b1.c 0 _ rfl
    have f1 : W.cell? ⟨w.heap.size + 1, 1, none⟩ = some (.int .i64 me') := b1.c 1 _ rfl
    have f2 : W.cell? ⟨w.heap.size + 1, 2, none⟩ = some (.slice A' m' ca') := b1.c 2 _ rfl
    have f3 : W.cell? ⟨w.heap.size + 1, 3, none⟩ = some (.slice B' n' cb') := b1.c 3 _ rfl
    go_wp2_with fail
    go_ret
    exact ⟨rfl, hB0⟩
#print axioms same_any

def sameEntB (pr sq k me pr' sq' k' me' : Int) (u u' : List Val3) (x x' : List Int) : Bool := decide (pr = pr') && (decide (sq = sq') && sameOpB k me k' me' u u' x x')

set_option maxRecDepth 100000 in
set_option maxHeartbeats 4000000 in
theorem sameEnt_any (pr sq k me pr' sq' k' me' : Int) (A B A' B' : Option Addr) (m ca n cb m' ca' n' cb' : Nat) (u u' : List Val3) (x x' : List Int) (w : World) (h : OpAt w A m B n u x) (h' : OpAt w A' m' B' n' u' x') :
    Calls Try.prog 34 #[.agg #[.int .i64 pr, .int .i64 sq, .int .u8 k, .int .i64 me, .slice A m ca, .slice B n cb], .agg #[.int .i64 pr', .int .i64 sq', .int .u8 k', .int .i64 me', .slice A' m' ca', .slice B' n' cb']] w fun e w' => e = .returned (.bool (sameEntB pr sq k me pr' sq' k' me' u u' x x')) ∧ Below w.heap.size w w' := by
  have hB0 : Below w.heap.size w ((w.alloc (.cells #[.int .i64 pr, .int .i64 sq, .int .u8 k, .int .i64 me, .slice A m ca, .slice B n cb] 58)).alloc (.cells #[.int .i64 pr', .int .i64 sq', .int .u8 k', .int .i64 me', .slice A' m' ca', .slice B' n' cb'] 58)) := by go_grown
  obtain ⟨W, hW⟩ : ∃ W, (w.alloc (.cells #[.int .i64 pr, .int .i64 sq, .int .u8 k, .int .i64 me, .slice A m ca, .slice B n cb] 58)).alloc (.cells #[.int .i64 pr', .int .i64 sq', .int .u8 k', .int .i64 me', .slice A' m' ca', .slice B' n' cb'] 58) = W := ⟨_, rfl⟩
  have b0 : Blk W w.heap.size [.int .i64 pr, .int .i64 sq, .int .u8 k, .int .i64 me, .slice A m ca, .slice B n cb] := by rw [← hW]; exact (Blk.new w _ _).alloc _
  have b1 : Blk W (w.heap.size + 1) [.int .i64 pr', .int .i64 sq', .int .u8 k', .int .i64 me', .slice A' m' ca', .slice B' n' cb'] := by
    rw [← hW]
    have := Blk.new (w.alloc (.cells #[.int .i64 pr, .int .i64 sq, .int .u8 k, .int .i64 me, .slice A m ca, .slice B n cb] 58)) #[.int .i64 pr', .int .i64 sq', .int .u8 k', .int .i64 me', .slice A' m' ca', .slice B' n' cb'] 58
    simpa using this
  rw [hW] at hB0
  have hso := same_any k me k' me' A B A' B' m ca n cb m' ca' n' cb' u u' x x' W (h.below hB0) (h'.below hB0)
  have HSO := Lib.hid hso
  have HW := Lib.hid hW
  clear h h' hW hso
  unfold sameEntB
  by_cases hk : pr = pr'
  · have e1 : (pr == pr') = true := by rw [beq_iff_eq]; exact hk
    rw [decide_eq_true hk, Bool.true_and]
    clear hk
    by_cases hme : sq = sq'
    · have e2 : (sq == sq') = true := by rw [beq_iff_eq]; exact hme
      rw [decide_eq_true hme, Bool.true_and]
      clear hme
      go_enter Try.func34, Try.ntmps34
      go_wp2_with fail
      rw [HW.out]
      have d0 : W.cell? ⟨w.heap.size, 0, none⟩ = some (.int .i64 pr) := b0.c 0 _ rfl
      have d1 : W.cell? ⟨w.heap.size, 1, none⟩ = some (.int .i64 sq) := b0.c 1 _ rfl
      have d2 : W.cell? ⟨w.heap.size, 2, none⟩ = some (.int .u8 k) := b0.c 2 _ rfl
      have d3 : W.cell? ⟨w.heap.size, 3, none⟩ = some (.int .i64 me) := b0.c 3 _ rfl
      have d4 : W.cell? ⟨w.heap.size, 4, none⟩ = some (.slice A m ca) := b0.c 4 _ rfl
      have d5 : W.cell? ⟨w.heap.size, 5, none⟩ = some (.slice B n cb) := b0.c 5 _ rfl
      have f0 : W.cell? ⟨w.heap.size + 1, 0, none⟩ = some (.int .i64 pr') := b1.c 0 _ rfl
      have f1 : W.cell? ⟨w.heap.size + 1, 1, none⟩ = some (.int .i64 sq') := b1.c 1 _ rfl
      have f2 : W.cell? ⟨w.heap.size + 1, 2, none⟩ = some (.int .u8 k') := b1.c 2 _ rfl
      have f3 : W.cell? ⟨w.heap.size + 1, 3, none⟩ = some (.int .i64 me') := b1.c 3 _ rfl
      have f4 : W.cell? ⟨w.heap.size + 1, 4, none⟩ = some (.slice A' m' ca') := b1.c 4 _ rfl
      have f5 : W.cell? ⟨w.heap.size + 1, 5, none⟩ = some (.slice B' n' cb') := b1.c 5 _ rfl
      go_wp2_with fail
      refine HSO.out.mono ?_
      rintro e w' ⟨rfl, hb⟩
      go_wp2_with fail
      go_ret
      exact ⟨rfl, below_next hB0 hb⟩
    · have e2 : (sq == sq') = false := by rw [beq_eq_false_iff_ne]; exact hme
      rw [decide_eq_false hme, Bool.false_and]
      clear hme
      go_enter Try.func34, Try.ntmps34
      go_wp2_with fail
      rw [HW.out]
      have d0 : W.cell? ⟨w.heap.size, 0, none⟩ = some (.int .i64 pr) := b0.c 0 _ rfl
      have d1 : W.cell? ⟨w.heap.size, 1, none⟩ = some (.int .i64 sq) := b0.c 1 _ rfl
      have d2 : W.cell? ⟨w.heap.size, 2, none⟩ = some (.int .u8 k) := b0.c 2 _ rfl
      have d3 : W.cell? ⟨w.heap.size, 3, none⟩ = some (.int .i64 me) := b0.c 3 _ rfl
      have d4 : W.cell? ⟨w.heap.size, 4, none⟩ = some (.slice A m ca) := b0.c 4 _ rfl
      have d5 : W.cell? ⟨w.heap.size, 5, none⟩ = some (.slice B n cb) := b0.c 5 _ rfl
      have f0 : W.cell? ⟨w.heap.size + 1, 0, none⟩ = some (.int .i64 pr') := b1.c 0 _ rfl
      have f1 : W.cell? ⟨w.heap.size + 1, 1, none⟩ = some (.int .i64 sq') := b1.c 1 _ rfl
      have f2 : W.cell? ⟨w.heap.size + 1, 2, none⟩ = some (.int .u8 k') := b1.c 2 _ rfl
      have f3 : W.cell? ⟨w.heap.size + 1, 3, none⟩ = some (.int .i64 me') := b1.c 3 _ rfl
      have f4 : W.cell? ⟨w.heap.size + 1, 4, none⟩ = some (.slice A' m' ca') := b1.c 4 _ rfl
      have f5 : W.cell? ⟨w.heap.size + 1, 5, none⟩ = some (.slice B' n' cb') := b1.c 5 _ rfl
      go_wp2_with fail
      go_ret
      exact ⟨rfl, hB0⟩
  · have e1 : (pr == pr') = false := by rw [beq_eq_false_iff_ne]; exact hk
    rw [decide_eq_false hk, Bool.false_and]
    clear hk
    go_enter Try.func34, Try.ntmps34
    go_wp2_with fail
    rw [HW.out]
    have d0 : W.cell? ⟨w.heap.size, 0, none⟩ = some (.int .i64 pr) := b0.c 0 _ rfl
    have d1 : W.cell? ⟨w.heap.size, 1, none⟩ = some (.int .i64 sq) := b0.c 1 _ rfl
    have d2 : W.cell? ⟨w.heap.size, 2, none⟩ = some (.int .u8 k) := b0.c 2 _ rfl
    have d3 : W.cell? ⟨w.heap.size, 3, none⟩ = some (.int .i64 me) := b0.c 3 _ rfl
    have d4 : W.cell? ⟨w.heap.size, 4, none⟩ = some (.slice A m ca) := b0.c 4 _ rfl
    have d5 : W.cell? ⟨w.heap.size, 5, none⟩ = some (.slice B n cb) := b0.c 5 _ rfl
    have f0 : W.cell? ⟨w.heap.size + 1, 0, none⟩ = some (.int .i64 pr') := b1.c 0 _ rfl
    have f1 : W.cell? ⟨w.heap.size + 1, 1, none⟩ = some (.int .i64 sq') := b1.c 1 _ rfl
    have f2 : W.cell? ⟨w.heap.size + 1, 2, none⟩ = some (.int .u8 k') := b1.c 2 _ rfl
    have f3 : W.cell? ⟨w.heap.size + 1, 3, none⟩ = some (.int .i64 me') := b1.c 3 _ rfl
    have f4 : W.cell? ⟨w.heap.size + 1, 4, none⟩ = some (.slice A' m' ca') := b1.c 4 _ rfl
    have f5 : W.cell? ⟨w.heap.size + 1, 5, none⟩ = some (.slice B' n' cb') := b1.c 5 _ rfl
    go_wp2_with fail
    go_ret
    exact ⟨rfl, hB0⟩
#print axioms sameEnt_any

/-- Pending, as the reference tells it. -/
theorem refPending_any (s k me q : Int) (A1 A2 : Option Addr) (n1 c1 n2 c2 : Nat) (a : Option Addr) (cap : Nat) (zs : List Int) (hreach : zs.length ≤ 1000) (w : World) (hI : IntsAt w.heap.size w a zs) :
    Calls Try.prog 31 #[.agg #[.int .i64 s, .int .u8 k, .int .i64 me, .slice A1 n1 c1, .slice A2 n2 c2], .int .i64 q, .slice a zs.length cap] w fun e W' =>
      e = .returned (.bool (pendB s q zs)) ∧ Below w.heap.size w W' := by
  obtain ⟨W, hW⟩ : ∃ W, w.alloc (.cells #[.int .i64 s, .int .u8 k, .int .i64 me, .slice A1 n1 c1, .slice A2 n2 c2] 60) = W := ⟨_, rfl⟩
  have hB0 : Below w.heap.size w W := by rw [← hW]; go_grown
  have b0 : Blk W w.heap.size [.int .i64 s, .int .u8 k, .int .i64 me, .slice A1 n1 c1, .slice A2 n2 c2] := by rw [← hW]; exact Blk.new w _ _
  have d0 : W.cell? ⟨w.heap.size, 0, none⟩ = some (.int .i64 s) := b0.c 0 _ rfl
  have HW := Lib.hid hW
  have HI := Lib.hid (hI.below hB0)
  have hz : (zs.length : Int) ≤ 1000 := by omega
  clear hW b0 hI hreach
  by_cases h1 : 0 ≤ q
  · by_cases h2 : q < zs.length
    · obtain ⟨q, rfl⟩ := Int.eq_ofNat_of_zero_le h1
      obtain ⟨b, off, rfl, hb, hc⟩ := HI.out q (by omega)
      obtain ⟨X, hX⟩ : ∃ X, zs[q]?.getD 0 = X := ⟨_, rfl⟩
      have hp : pendB s q zs = decide (X < s) := by
        unfold pendB
        rw [decide_eq_decide]
        constructor
        · intro h
          have := h.2.2
          simp only [Int.toNat_natCast] at this
          rw [← hX]; exact this
        · intro h
          exact ⟨h1, h2, by simp only [Int.toNat_natCast]; rw [hX]; exact h⟩
      rw [hX] at hc
      have HP := Lib.hid hp
      clear hp hX
      go_enter Try.func31, Try.ntmps31
      go_wp2_with fail
      rw [HW.out]
      go_quiet (fail)
      go_wp2_with fail
      go_ret
      exact ⟨an_bool HP.out.symm, below_drewN hB0 _⟩
    · have hp : pendB s q zs = false := by unfold pendB; rw [decide_eq_false_iff_not]; omega
      have e1 : decide (q < (zs.length : Int)) = false := decide_eq_false h2
      rw [hp]
      clear hp
      go_enter Try.func31, Try.ntmps31
      go_wp2_with fail
      rw [HW.out]
      go_quiet (fail)
      go_wp2_with fail
      go_ret
      exact ⟨rfl, below_drewN hB0 _⟩
  · have hp : pendB s q zs = false := by unfold pendB; rw [decide_eq_false_iff_not]; omega
    have e1 : decide (0 ≤ q) = false := decide_eq_false h1
    rw [hp]
    clear hp
    go_enter Try.func31, Try.ntmps31
    go_wp2_with fail
    rw [HW.out]
    go_quiet (fail)
    go_wp2_with fail
    go_ret
    exact ⟨rfl, below_drewN hB0 _⟩
#print axioms refPending_any

end Go.Proofs.Ytkjmnmcekhnkmab
