/- FramePlays: the law's walk. -/
import Derived.Test.YthllfeogchbihaaFrameY
import Derived.Test.YthllfeogchbihaaFrameW
import Derived.Test.YthllfeogchbihaaFrameH
import Derived.Test.YthllfeogchbihaaFrameN
import Derived.Laws.AppendOwnNone
import Derived.Deep.DeepCutAuto
namespace Go.Proofs.Ythllfeogchbihaa
open Go.RowKit
set_option linter.unusedSimpArgs false
set_option linter.unusedVariables false

/-! Plain parts. -/
theorem PO.touch {w W : World} {fg rf c d : Nat} {F G : Fr} {K : Nat → Prop} (h : PO w W fg rf c d F G K) {S : Nat → Prop} {W' : World} (t : Touch S W W') (hs : ∀ b, S b → K b) (hw : ∀ b, S b → w.heap.size ≤ b) : PO w W' fg rf c d F G K := by
  obtain ⟨⟨base, la, sa, ta, tl, h1, h2, h3⟩, h4⟩ := h
  exact ⟨⟨base, la, sa, ta, tl, h1.touch t (fun b hb e => (h3 b (hs b e)).2 hb), h2.touch t (fun b _ e => .inr (hs b e)) hw, fun b hb => ⟨Nat.lt_of_lt_of_le (h3 b hb).1 t.size, (h3 b hb).2⟩⟩, h4⟩
theorem FO.back {w w0 W : World} {fg c : Nat} {F : Fr} {K : Nat → Prop} (h : FO w0 W fg c F K) (hb : Below w.heap.size w w0) : FO w W fg c F K := by
  obtain ⟨⟨base, gm, nm, A, cap, h0, h1, h2, h3⟩, k1, k2⟩ := h
  have := hb.size
  exact ⟨⟨base, gm, nm, A, cap, h0, h1, by omega, h3⟩, below_next hb k1, by omega⟩
theorem FO.wider {w W W2 : World} {fg c : Nat} {F : Fr} {K0 K : Nat → Prop} (h : FO w W fg c F K0) (hb : Below W.heap.size W W2) (hK : ∀ b, K b → b < W2.heap.size ∧ (W.heap.size ≤ b ∨ K0 b)) : FO w W2 fg c F K := by
  obtain ⟨⟨base, gm, nm, A, cap, h0, h1, h2, h3⟩, k1, k2⟩ := h
  refine ⟨⟨base, gm, nm, A, cap, h0.below hb, h1, h2, fun b hk => ⟨(hK b hk).1, fun e => ?_⟩⟩, below_next k1 hb, k2⟩
  rcases (hK b hk).2 with h5 | h5
  · have := h0.foot b e
    omega
  · exact (h3 b h5).2 e
/-- Both are new. -/
theorem PO.start {w wA W1 W2 : World} {fg rf base : Nat} {F : Fr} {la sa ta : Value} {tl : List (Int × Int)} {K : Nat → Prop} (hb : Below w.heap.size w wA) (h1 : FO wA W1 fg 0 F (fun b => b < wA.heap.size)) (hb2 : Below W1.heap.size W1 W2) (hr : W1.heap.size ≤ rf)
    (h2 : RfAt W2 base rf 0 la sa ta tl F) (hK : ∀ b, K b → b < wA.heap.size) : PO w W2 fg rf 0 0 F F K := by
  have e1 := h1.bw.size
  have e2 := hb.size
  have e3 := hb2.size
  refine ⟨⟨base, la, sa, ta, tl, h2, (h1.wider hb2 (fun b e => ?_)).back hb, fun b e => ⟨?_, fun e4 => ?_⟩⟩, by omega⟩
  · rcases e with e | e
    · have := h2.foot2 b e
      exact ⟨h2.foot b e, .inl (by omega)⟩
    · have := hK b e
      exact ⟨by omega, .inr this⟩
  · have := hK b e
    omega
  · have := hK b e
    have := h2.foot2 b e4
    omega
theorem vsAt_row {w : World} {base n : Nat} {v : Value} {vs : List V} (h : w.ownsRow base 37 3 v n (vcs vs)) (hok : ∀ u ∈ vs, VOk u) : ∃ A cap, v = .slice A n cap ∧ VsAt w A n vs := by
  obtain ⟨A, cap, rfl⟩ := row_form h
  have hl := h.1
  rw [vcs_length] at hl
  refine ⟨A, cap, rfl, by omega, fun i hi => ?_⟩
  obtain ⟨g, cap2, e, -⟩ := row_some h (by omega)
  injection e with e1 e2 e3
  subst e1 e3
  obtain ⟨a0, a1, a2, a3⟩ := rowcells h hi
  exact ⟨g, 0, rfl, a3, hok _ (List.getElem_mem hi), by simpa using a0, by simpa using a1, by simpa using a2⟩
/-- The acts in a slice. -/
def ActsAt (w : World) (A : Option Addr) (m : Nat) : Prop :=
  ∀ j, j < m → ∃ g o, A = some ⟨g, o, none⟩ ∧ g < w.heap.size ∧ ∃ k i n x0 x1 x2 : Int, ((0 ≤ k ∧ k ≤ 255) ∧ I64 i ∧ I64 n ∧ VOk (x0, x1, x2)) ∧
    w.cell? ⟨g, o + j * 6, none⟩ = some (.int .u8 k) ∧ w.cell? ⟨g, o + j * 6 + 1, none⟩ = some (.int .i64 i) ∧ w.cell? ⟨g, o + j * 6 + 2, none⟩ = some (.int .i64 n) ∧
    w.cell? ⟨g, o + j * 6 + 3, none⟩ = some (.int .u8 x0) ∧ w.cell? ⟨g, o + j * 6 + 4, none⟩ = some (.int .i64 x1) ∧ w.cell? ⟨g, o + j * 6 + 5, none⟩ = some (.int .i64 x2)
theorem cells51 : Try.prog.cellsOf 51 = 6 := by kernel_rfl
theorem actsAt_of {w : World} {A : Option Addr} {m cap n : Nat} (h : deepOk Try.prog w (n + 4) 45 [.slice A m cap]) : ActsAt w A m := by
  obtain ⟨A', m', cap', e, -, -, h3⟩ := deepOk_slice Try.underlying45 h
  injection e with e
  injection e with e1 e2 e3
  subst e1 e2 e3
  intro j hj
  obtain ⟨g, o, es, e1, hg, hl, hc, hd⟩ := h3 (by rw [cells51]; decide) j hj
  rw [cells51] at hl hc
  obtain ⟨k, i, n', v, rfl, b1, b2, b3, b4⟩ := act_in hl hd
  exact ⟨g, o, e1, hg, k, i, n', v.1, v.2.1, v.2.2, ⟨b1, b2, b3, b4⟩, hc 0 (by omega), by rw [Nat.add_assoc]; exact hc 1 (by omega), by rw [Nat.add_assoc]; exact hc 2 (by omega), by rw [Nat.add_assoc]; exact hc 3 (by omega), by rw [Nat.add_assoc]; exact hc 4 (by omega), by rw [Nat.add_assoc]; exact hc 5 (by omega)⟩
theorem does_any {w W : World} {fg rf c d : Nat} {F : Fr} (h : PO w W fg rf c d F F (fun _ => False)) (k i n x0 x1 x2 : Int) (hk : (0 ≤ k ∧ k ≤ 255) ∧ I64 i ∧ I64 n ∧ VOk (x0, x1, x2)) (hc : c < 100000) (hd : d < 100000) :
    Calls Try.prog 18 #[.pointer (some ⟨fg, 0, none⟩), .pointer (some ⟨rf, 0, none⟩), .agg #[.int .u8 k, .int .i64 i, .int .i64 n, .int .u8 x0, .int .i64 x1, .int .i64 x2]] W fun e W' => Does w fg rf c d e W' := by
  obtain ⟨h1, h2, h3, h4⟩ := hk
  rcases (show k % 7 = 0 ∨ k % 7 = 1 ∨ k % 7 = 2 ∨ k % 7 = 3 ∨ k % 7 = 4 ∨ k % 7 = 5 ∨ k % 7 = 6 by omega) with e | e | e | e | e | e | e
  · exact does_0 h k i n x0 x1 x2 h1 h2 h3 h4 hc hd e
  · exact does_1 h k i n x0 x1 x2 h1 h2 h3 h4 hc hd e
  · exact does_2 h k i n x0 x1 x2 h1 h2 h3 h4 hc hd e
  · exact does_3 h k i n x0 x1 x2 h1 h2 h3 h4 hc hd e
  · exact does_4 h k i n x0 x1 x2 h1 h2 h3 h4 hc hd e
  · exact does_5 h k i n x0 x1 x2 h1 h2 h3 h4 hc hd e
  · exact does_6 h k i n x0 x1 x2 h1 h2 h3 h4 hc hd e
/-- A zero is stored into the law's own list. -/
theorem wipe {w wr : World} {fg rf n cap g k : Nat} {F : Fr} {xs : List Value} {A : Option Addr} (hp : PO w wr fg rf 0 0 F F (fun b => (Value.slice A n cap).ownBlock = some b)) (hA : A = some ⟨g, 0, none⟩) (hr : wr.ownsRow w.heap.size 37 3 (.slice A n cap) n xs) {W' : World}
    (hw : W' = ((wr.setCell ⟨g, k * 3, none⟩ (.int .u8 0)).setCell ⟨g, k * 3 + 1, none⟩ (.int .i64 0)).setCell ⟨g, k * 3 + 2, none⟩ (.int .i64 0)) :
    PO w W' fg rf 0 0 F F (fun b => (Value.slice A n cap).ownBlock = some b) ∧ ∃ xs', W'.ownsRow w.heap.size 37 3 (.slice A n cap) n xs' := by
  subst hA
  have t : Touch (fun b => b = g) wr W' := by
    rw [hw]
    exact (((Touch.refl (fun b => b = g) wr).setCell _ _ (fun _ => rfl)).setCell _ _ (fun _ => rfl)).setCell _ _ (fun _ => rfl)
  have hb := (hr.lt g rfl).1
  have hR := row_set (row_set (row_set hr (k * 3) (.int .u8 0)) (k * 3 + 1) (.int .i64 0)) (k * 3 + 2) (.int .i64 0)
  rw [← hw] at hR
  exact ⟨hp.touch t (fun b e => by rw [e]; rfl) (fun b e => by rw [e]; exact hb), _, hR⟩
theorem own_empty (w : World) : (w.alloc (.cells #[] 37)).ownsRow w.heap.size 37 3 (.slice (some ⟨w.heap.size, 0, none⟩) 0 0) 0 [] :=
  World.ownsRow_made (size := 3) w #[] 0 (Nat.le_refl _) (by decide) rfl
theorem addr_add (g o j : Nat) : (⟨g, o, none⟩ : Addr).add j = ⟨g, o + j, none⟩ := by
  unfold Addr.add
  split
  · next h => subst h; rfl
  · rfl
theorem src_cells {w : World} {ad : Addr} {n : Nat} {vs : List V} (h : VsAt w (some ad) n vs) (o : Obj) : ∀ j u, (vcs vs)[j]? = some u → (w.alloc o).cell? (ad.add j) = some u := by
  intro j u hu
  have hj : j < (vcs vs).length := by
    rcases Nat.lt_or_ge j (vcs vs).length with h1 | h1
    · exact h1
    · rw [List.getElem?_eq_none h1] at hu; cases hu
  rw [vcs_length] at hj
  have hi : j / 3 < vs.length := by omega
  obtain ⟨g, oo, e, hg, -, c0, c1, c2⟩ := h.2 (j / 3) hi
  injection e with e
  subst e
  obtain ⟨a0, a1, a2⟩ := vcs_get vs (j / 3) hi
  have hb : Below w.heap.size w (w.alloc o) := (Below.refl _ _).alloc (Nat.le_refl _) o
  rw [addr_add]
  rw [hb.cell (p := ⟨g, oo + j, none⟩) hg]
  rcases (show j = j / 3 * 3 ∨ j = j / 3 * 3 + 1 ∨ j = j / 3 * 3 + 2 by omega) with e | e | e
  · rw [e, a0] at hu
    injection hu with hu
    rw [← hu, ← c0]; congr 2; omega
  · rw [e, a1] at hu
    injection hu with hu
    rw [← hu, ← c1]; congr 2; omega
  · rw [e, a2] at hu
    injection hu with hu
    rw [← hu, ← c2]; congr 2; omega


/-- Nil is appended to a row of the call's own: the row stays. -/
theorem wpList_append_nil {w : World} {ops : Array Oper} {rest : List Oper} {o : Oper} {a : Act} {Q : Exit → Act → World → Prop} (hgd : o.guard = none) (s x : Operand)
    (ho : o.op = .call { callee := .builtin .append, args := #[s, x], argTypes := #[35, 35] })
    (i : TypeInfo) (hi : Try.prog.info? 37 = some i) {base n : Nat} {v : Value} {xs : List Value} (hs : a.eval s = v) (hown : w.ownsRow base 37 3 v n xs) (c : Nat) (hx : a.eval x = .slice none 0 c)
    (h : wpList Try.prog ops Q rest (a.put o.dst v) w) : wpList Try.prog ops Q (o :: rest) a w := by
  refine wpList_plain hgd fun K hK => ?_
  have hrun : (Builtin.append_ #[35, 35] o.type #[v, .slice none 0 c]).run Try.prog w = .ok v w := by
    have hu := run_underlying (P := Try.prog) (w := w) Try.underlying35
    rcases hown.2 with ⟨rfl, rfl⟩ | ⟨g, cap, cur, rfl, -, -, hnc, -⟩
    · simp [Builtin.append_, hu, sizeOf, typeInfo, hi, Builtin.lenOf, Builtin.firstCells]
    · simp [Builtin.append_, hu, sizeOf, typeInfo, hi, Builtin.lenOf, Builtin.firstCells, hnc, storeCells]
  unfold Oper.wp
  simp [execOp, ho, resolve, invoke, builtin, hs, hx, hrun, Result.andThen]
  exact hK _ _ h

section
variable (A0 A1 A2 A3 : Option Addr) (n0 n1 n2 n3 c0 c1 c2 c3 : Nat) (w : World)
set_option maxRecDepth 100000 in
set_option maxHeartbeats 4000000 in
theorem plays_long (h : 40 < n0 ∨ 40 < n1 ∨ 40 < n2 ∨ 400 < n3) :
    Calls Try.prog 5 #[.slice A0 n0 c0, .slice A1 n1 c1, .slice A2 n2 c2, .slice A3 n3 c3] w fun e w' => e = .returned (.bool true) ∧ Below w.heap.size w w' := by
  by_cases q0 : 40 < n0
  · have t0 : (40 : Int) < (n0 : Int) := by omega
    go_enter Try.func5, Try.ntmps5
    go_wp2_with fail
    go_ret
    exact ⟨rfl, Below.refl _ _⟩
  have t0 : (n0 : Int) ≤ 40 := by omega
  by_cases q1 : 40 < n1
  · have t1 : (40 : Int) < (n1 : Int) := by omega
    go_enter Try.func5, Try.ntmps5
    go_wp2_with fail
    go_ret
    exact ⟨rfl, Below.refl _ _⟩
  have t1 : (n1 : Int) ≤ 40 := by omega
  by_cases q2 : 40 < n2
  · have t2 : (40 : Int) < (n2 : Int) := by omega
    go_enter Try.func5, Try.ntmps5
    go_wp2_with fail
    go_ret
    exact ⟨rfl, Below.refl _ _⟩
  have t2 : (n2 : Int) ≤ 40 := by omega
  have t3 : (400 : Int) < (n3 : Int) := by omega
  go_enter Try.func5, Try.ntmps5
  go_wp2_with fail
  go_ret
  exact ⟨rfl, Below.refl _ _⟩

set_option maxRecDepth 100000 in
set_option maxHeartbeats 8000000 in
theorem plays_walk (ks ls : List Int) (vs : List V) (hA0 : BytesAt w A0 n0 ks) (hA1 : BytesAt w A1 n1 ls) (hA2 : VsAt w A2 n2 vs) (hA2n : A2 = none → n2 = 0) (hA3 : ActsAt w A3 n3) (h : ¬ (40 < n0 ∨ 40 < n1 ∨ 40 < n2 ∨ 400 < n3)) :
    Calls Try.prog 5 #[.slice A0 n0 c0, .slice A1 n1 c1, .slice A2 n2 c2, .slice A3 n3 c3] w fun e w' => e = .returned (.bool true) ∧ Below w.heap.size w w' := by
  obtain ⟨i37, hi, hz0, hz1, hz2⟩ := fr_parts info37

  have t0 : (n0 : Int) ≤ 40 := by omega
  have t1 : (n1 : Int) ≤ 40 := by omega
  have t2 : (n2 : Int) ≤ 40 := by omega
  have t3 : (n3 : Int) ≤ 400 := by omega

  have u0 : n0 ≤ 100000 := by omega
  have u1 : n1 ≤ 100000 := by omega
  have u2 : n2 ≤ 100000 := by omega
  have u3 : n3 ≤ 400 := by omega
  have HA0 := Lib.hid hA0
  have HA1 := Lib.hid hA1
  have HA2 := Lib.hid hA2
  have HA3 := Lib.hid hA3
  have HAN := Lib.hid hA2n
  clear hA0 hA1 hA2 hA3 hA2n h
  go_enter Try.func5, Try.ntmps5
  go_upto_region 3 with fail
  go_cut [9] (fun v wx => ∃ A cap, v = .slice A n2 cap ∧ wx.ownsRow w.heap.size 37 3 v n2 (vcs vs) ∧ Below w.heap.size w wx)
  case first =>
    rcases A2 with _ | ad
    · obtain rfl := HAN.out rfl
      have hv : vs = [] := List.eq_nil_of_length_eq_zero HA2.out.1
      go_wp2_with (first | (refine wpList_append_nil rfl (.tmp 38) (.tmp 39) rfl i37 hi (v := .slice (some ⟨w.heap.size, 0, none⟩) 0 0) rfl (own_empty w) c2 rfl ?_) | fail)
      go_meet
      refine ⟨_, _, rfl, ?_, (Below.refl _ _).alloc (Nat.le_refl _) _⟩
      rw [hv]
      exact own_empty w
    · have hnm : 0 + n2 ≤ maxLen := by unfold maxLen; omega
      have hnb : (0 + n2) * 24 ≤ 140737488355328 := by omega
      have hln : (vcs vs).length = n2 * 3 := by rw [vcs_length, HA2.out.1]
      have hsrc := src_cells HA2.out (.cells #[] 37)
      have hone := vcs_one vs
      have HSRC := Lib.hid hsrc
      have HONE := Lib.hid hone
      clear hsrc hone
      go_wp2_with (first | (refine wpList_append_own_at _ rfl (.tmp 38) (.tmp 39) 35 rfl w.heap.size 37 i37 (.agg #[.int .u8 0, .int .i64 0, .int .i64 0]) 3 24 Try.underlying35 hi hz0 hz1 hz2 rfl (by decide) (.slice (some ⟨w.heap.size, 0, none⟩) 0 0) 0 [] rfl (own_empty w) ad n2 c2 (vcs vs) rfl hln HSRC.out HONE.out hnm hnb (by simp) ?_; intro v' w3 hown hgrow hnil hat; have HOWN := Lib.hid hown; have HGROW := Lib.hid hgrow; clear hown hgrow hnil hat) | fail)
      go_meet
      have ho := HOWN.out
      rw [Nat.zero_add, List.nil_append] at ho
      obtain ⟨A, cap, rfl⟩ := row_form ho
      refine ⟨A, cap, rfl, ho, ?_⟩
      have t : Touch (fun b => b = w.heap.size) w w3 := (Touch.of_below ((Below.refl _ _).alloc (Nat.le_refl _) _) (Nat.le_refl _) _).grown HGROW.out (fun j e _ => (Option.some.inj e).symm)
      exact t.below (Nat.le_refl _) (fun b e => by rw [e]; exact Nat.le_refl _)
  case rest =>
    obtain ⟨A, cap, rfl, hrow, hbA⟩ := hcut
    have hvo : ∀ u ∈ vs, VOk u := fun u hu => by
      obtain ⟨j, hj, rfl⟩ := List.getElem_of_mem hu
      obtain ⟨g, o, -, -, h5, -⟩ := HA2.out.2 j hj
      exact h5
    obtain ⟨A', cap', e, hv⟩ := vsAt_row hrow hvo
    injection e with e1 e2 e3
    subst e1 e3
    have HV := Lib.hid hv
    have HROW := Lib.hid hrow
    have HBA := Lib.hid hbA
    have B0 := Lib.hid (HA0.out.below hbA)
    have B1 := Lib.hid (HA1.out.below hbA)
    have B2 := Lib.hid (HA2.out.below hbA)
    clear hv hrow hbA HA0 HA1 HAN
    by_cases hok : NewOk ks ls vs
    case neg =>
      have HOK := Lib.hid hok
      clear hok
      go_wp2_with fail
      refine (fo_new_no _ _ _ _ _ _ _ _ _ _ ks ls vs B0.out B1.out HV.out u0 u1 u2 HOK.out).mono ?_
      rintro e w1 ⟨rfl, hb1⟩
      have HB1 := Lib.hid hb1
      clear hb1
      go_wp2_with fail
      refine (rnew_any _ _ _ _ _ _ _ _ _ _ ks ls vs (B0.out.below HB1.out) (B1.out.below HB1.out) (B2.out.below HB1.out) u0 u1 u2).mono ?_
      rintro e w2 (⟨h, -⟩ | ⟨-, rfl, hb2⟩)
      · exact absurd h HOK.out
      · have HB2 := Lib.hid hb2
        clear hb2
        go_wp2_with fail
        go_ret
        exact ⟨rfl, below_next (below_next HBA.out HB1.out) HB2.out⟩
    case pos =>
      have HOK := Lib.hid hok
      clear hok
      go_wp2_with fail
      refine (fo_new _ _ _ _ _ _ _ _ _ _ ks ls vs B0.out B1.out HV.out u0 u1 u2 HOK.out).mono ?_
      rintro e w1 ⟨fg, rfl, hf⟩
      have HF := Lib.hid hf
      clear hf
      go_wp2_with fail
      refine (rnew_any _ _ _ _ _ _ _ _ _ _ ks ls vs (B0.out.below HF.out.bw) (B1.out.below HF.out.bw) (B2.out.below HF.out.bw) u0 u1 u2).mono ?_
      rintro e w2 (⟨-, base, rf, la, sa, ta, rfl, hb2, hr, hrf⟩ | ⟨h, -⟩)
      case inr => exact absurd HOK.out h
      have hst : PO w w2 fg rf 0 0 (newFr ks ls vs) (newFr ks ls vs) (fun b => (Value.slice A n2 cap).ownBlock = some b) := PO.start HBA.out HF.out hb2 hr hrf (fun b e => (HROW.out.lt b e).2)
      have hrw : w2.ownsRow w.heap.size 37 3 (.slice A n2 cap) n2 (vcs vs) := row_touch (S := fun _ => False) (Touch.of_below (below_next HF.out.bw hb2) (Nat.le_refl _) _) HROW.out (fun b e e2 => e2)
      have HST := Lib.hid hst
      have HRW := Lib.hid hrw
      obtain ⟨F0, hF0⟩ : ∃ F0, newFr ks ls vs = F0 := ⟨_, rfl⟩
      rw [hF0] at HST
      clear hst hrw hb2 hr hrf HF hF0 HROW HV B0 B1 B2
      go_wp2_with fail
      go_loopw [14] (fun i wr => ∃ (k : Nat) (xs : List Value), k ≤ n2 ∧ i = .int .i64 k ∧ PO w wr fg rf 0 0 F0 F0 (fun b => (Value.slice A n2 cap).ownBlock = some b) ∧ wr.ownsRow w.heap.size 37 3 (.slice A n2 cap) n2 xs) (fun i _ => n2 - (intOf i).toNat)
      case atStart => exact ⟨0, _, by omega, rfl, HST.out, HRW.out⟩
      case round =>
        clear HST HRW
        obtain ⟨k, xs, hk, rfl, hp, hr⟩ := hrel
        have HP := Lib.hid hp
        have HR := Lib.hid hr
        clear hp hr
        by_cases hlt : k < n2
        · have k1 : (k : Int) < (n2 : Int) := by omega
          obtain ⟨g, cap2, e, hcap, hgb, hgl⟩ := row_some HR.out (by omega)
          injection e with e1 e2 e3
          subst e3
          have hs := fun W' hw => wipe (k := k) (W' := W') HP.out e1 HR.out hw
          subst e1
          have hl := HR.out.1
          obtain ⟨y0, y1, y2⟩ : (∃ y, wr.cell? ⟨g, k * 3, none⟩ = some y) ∧ (∃ y, wr.cell? ⟨g, k * 3 + 1, none⟩ = some y) ∧ (∃ y, wr.cell? ⟨g, k * 3 + 2, none⟩ = some y) := by
            refine ⟨⟨xs[k * 3]'(by omega), ?_⟩, ⟨xs[k * 3 + 1]'(by omega), ?_⟩, ⟨xs[k * 3 + 2]'(by omega), ?_⟩⟩
            · rw [HR.out.cellAt _ (by omega)]; exact List.getElem?_eq_getElem _
            · rw [HR.out.cellAt _ (by omega)]; exact List.getElem?_eq_getElem _
            · rw [HR.out.cellAt _ (by omega)]; exact List.getElem?_eq_getElem _
          obtain ⟨y0, a0⟩ := y0
          obtain ⟨y1, a1⟩ := y1
          obtain ⟨y2, a2⟩ := y2
          have f0 := row_free HR.out (k * 3)
          have f1 := row_free HR.out (k * 3 + 1)
          have f2 := row_free HR.out (k * 3 + 2)
          have HS := Lib.hid hs
          clear hs hl
          go_wp2_with fail
          go_roundw
          case rel =>
            obtain ⟨p1, xs', p2⟩ := HS.out _ rfl
            exact ⟨k + 1, xs', by omega, by go_num, p1, p2⟩
          case measure => simp [intOf]; omega
        · obtain rfl : n2 = k := by omega
          have HP := Lib.hid (HP.out.less (K' := fun _ => False) (fun b e => e.elim))
          clear HR
          go_wp2_with fail
          go_loopw [15] (fun i wr => ∃ (k : Nat) (F : Fr), k ≤ n3 ∧ i = .int .i64 k ∧ PO w wr fg rf k k F F (fun _ => False)) (fun i _ => n3 - (intOf i).toNat)
          case atStart => exact ⟨0, _, by omega, rfl, HP.out⟩
          case round =>
            clear HP
            obtain ⟨j, F, hj, rfl, hp⟩ := hrel
            have HP := Lib.hid hp
            clear hp
            by_cases hlt : j < n3
            · have j1 : (j : Int) < (n3 : Int) := by omega
              obtain ⟨ga, oa, rfl, hga, k, i, n, x0, x1, x2, hbd, d0, d1, d2, d3, d4, d5⟩ := HA3.out j hlt
              have hgl : ga < wr.heap.size := Nat.lt_of_lt_of_le hga HP.out.bw.size
              have HC : Hid (∀ W, Below w.heap.size w W → W.cell? ⟨ga, oa + j * 6, none⟩ = some (.int .u8 k) ∧ W.cell? ⟨ga, oa + j * 6 + 1, none⟩ = some (.int .i64 i) ∧ W.cell? ⟨ga, oa + j * 6 + 2, none⟩ = some (.int .i64 n) ∧ W.cell? ⟨ga, oa + j * 6 + 3, none⟩ = some (.int .u8 x0) ∧ W.cell? ⟨ga, oa + j * 6 + 4, none⟩ = some (.int .i64 x1) ∧ W.cell? ⟨ga, oa + j * 6 + 5, none⟩ = some (.int .i64 x2)) :=
                Lib.hid (fun W hb => ⟨(hb.cell (p := ⟨ga, _, none⟩) hga).trans d0, (hb.cell (p := ⟨ga, _, none⟩) hga).trans d1, (hb.cell (p := ⟨ga, _, none⟩) hga).trans d2, (hb.cell (p := ⟨ga, _, none⟩) hga).trans d3, (hb.cell (p := ⟨ga, _, none⟩) hga).trans d4, (hb.cell (p := ⟨ga, _, none⟩) hga).trans d5⟩)
              obtain ⟨b0, b1, b2, b3, b4, b5⟩ := HC.out _ HP.out.bw
              have HBD := Lib.hid hbd
              clear hbd d0 d1 d2 d3 d4 d5
              have HD := Lib.hid HP.out.drew
              go_upto_region 15 with fail
              go_cut [116] (fun s wx => s = .bool false ∧ ∃ F4, PO w wx fg rf (j + 1) (j + 1) F4 F4 (fun _ => False))
              case first =>
                go_region_with (first
                  | (go_at_call 18; refine (does_any HD.out k i n x0 x1 x2 HBD.out (by omega) (by omega)).mono ?_; rintro e w4 ⟨rfl, F4, h4⟩
                     have H4 := Lib.hid h4
                     clear h4)
                  | (go_at_call 15; refine (po_size H4.out).mono ?_; rintro e w5 ⟨rfl, k5, hw5⟩
                     have h5 : PO w w5 fg rf (j + 1) (j + 1) F4 F4 (fun _ => False) := by rw [hw5]; exact H4.out.drewN k5
                     clear hw5
                     have H5 := Lib.hid h5
                     clear h5)
                  | (go_at_call 19; refine (po_rsize H5.out).mono ?_; rintro e w6 ⟨rfl, k6, hw6⟩
                     have h6 : PO w w6 fg rf (j + 1) (j + 1) F4 F4 (fun _ => False) := by rw [hw6]; exact H5.out.drewN k6
                     clear hw6
                     obtain ⟨pl6, pf6, pg6⟩ := h6.place
                     have H6 := Lib.hid h6
                     clear h6)
                  | (go_at_call 16; refine (po_place H6.out).mono ?_; rintro e w7 ⟨rfl, rfl⟩)
                  | fail)
                all_goals (go_wp2_with fail; go_meet; exact ⟨by simp, _, H6.out⟩)
              case rest =>
               obtain ⟨rfl, F4, h6⟩ := hcut
               clear HD HP b0 b1 b2 b3 b4 b5
               have H6 := Lib.hid h6
               have HT1 := Lib.hid (po_top h6)
               clear h6
               obtain ⟨z, hz⟩ : ∃ z, topV F4 = z := ⟨_, rfl⟩
               obtain ⟨tb, htb⟩ : ∃ b, topB F4 = b := ⟨_, rfl⟩
               rw [hz, htb] at HT1
               have HZ := Lib.hid (And.intro hz htb)
               clear hz htb
               obtain ⟨z0, z1, z2⟩ := z
               unfold vagg at HT1
               dsimp only at HT1
               have hn := fun W => val_neq z0 z1 z2 z0 z1 z2 W true (by simp)
               go_wp2_with fail
               refine HT1.out.mono ?_
               rintro e w7 ⟨rfl, hb7⟩
               have h7 := (H6.out.below hb7).below ((Below.refl _ _).alloc (Nat.le_refl _) (.cells #[.int .u8 z0, .int .i64 z1, .int .i64 z2] 37))
               have hz7 := Blk.new w7 #[.int .u8 z0, .int .i64 z1, .int .i64 z2] 37
               have ht2 := po_rtop h7
               rw [HZ.out.1, HZ.out.2] at ht2
               unfold vagg at ht2
               dsimp only at ht2
               have HT2 := Lib.hid ht2
               have H7 := Lib.hid h7
               have HB7 := Lib.hid hz7
               clear h7 hz7 ht2 hb7 HT1 H6
               go_wp2_with fail
               refine HT2.out.mono ?_
               rintro e w8 ⟨rfl, hb8⟩
               have h8 := (H7.out.below hb8).below ((Below.refl _ _).alloc (Nat.le_refl _) (.cells #[.int .u8 z0, .int .i64 z1, .int .i64 z2] 37))
               have hb := HB7.out.below hb8
               have a0 : w8.cell? ⟨w7.heap.size, 0, none⟩ = some (.int .u8 z0) := hb.c 0 _ rfl
               have a1 : w8.cell? ⟨w7.heap.size, 1, none⟩ = some (.int .i64 z1) := hb.c 1 _ rfl
               have a2 : w8.cell? ⟨w7.heap.size, 2, none⟩ = some (.int .i64 z2) := hb.c 2 _ rfl
               have hal : w7.heap.size < w8.heap.size := hb.l
               have H8 := Lib.hid h8
               clear h8 hb hb8 H7 HB7 HT2
               generalize w7.heap.size = b7 at *
               cases tb <;> (
                 go_wp2_with fail
                 go_roundw
                 case rel => exact ⟨j + 1, F4, by omega, by go_num, H8.out⟩
                 case measure => simp [intOf]; omega)
            · obtain rfl : n3 = j := by omega
              have HB := Lib.hid HP.out.bw
              clear HP
              go_wp2_with fail
              go_ret
              exact ⟨rfl, HB.out⟩
theorem plays_all (d0 : deepOk Try.prog w 8 34 [.slice A0 n0 c0]) (d1 : deepOk Try.prog w 8 34 [.slice A1 n1 c1]) (d2 : deepOk Try.prog w 8 35 [.slice A2 n2 c2]) (d3 : deepOk Try.prog w 8 45 [.slice A3 n3 c3]) :
    Calls Try.prog 5 #[.slice A0 n0 c0, .slice A1 n1 c1, .slice A2 n2 c2, .slice A3 n3 c3] w fun e w' => e = .returned (.bool true) ∧ Below w.heap.size w w' := by
  by_cases h : 40 < n0 ∨ 40 < n1 ∨ 40 < n2 ∨ 400 < n3
  · exact plays_long A0 A1 A2 A3 n0 n1 n2 n3 c0 c1 c2 c3 w h
  · obtain ⟨ks, h0⟩ := bytesAt_of (n := 4) d0
    obtain ⟨ls, h1⟩ := bytesAt_of (n := 4) d1
    obtain ⟨vs, h2⟩ := vsAt_of (n := 4) d2
    refine plays_walk A0 A1 A2 A3 n0 n1 n2 n3 c0 c1 c2 c3 w ks ls vs h0 h1 h2 (fun e => ?_) (actsAt_of (n := 4) d3) h
    obtain ⟨A', m', cap', e2, -, h3, -⟩ := deepOk_slice Try.underlying35 d2
    injection e2 with e2
    injection e2 with e4 e5 e6
    subst e4 e5
    exact h3 e
end
end Go.Proofs.Ythllfeogchbihaa
