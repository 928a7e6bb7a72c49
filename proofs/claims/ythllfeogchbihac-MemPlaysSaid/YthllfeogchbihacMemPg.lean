/- MemPlays: the law's walk. -/
import Derived.Test.YthllfeogchbihacMemPe
import Derived.Test.YthllfeogchbihacMemPf
import Derived.Test.YthllfeogchbihacMemN
namespace Go.Proofs.Ythllfeogchbihac
open Go.RowKit
set_option linter.unusedSimpArgs false
set_option linter.unusedVariables false
theorem does_any {w W : World} {mg rg : Nat} {M R : Me} {xs : List Int} (h : PO w W mg rg M R xs xs (fun _ _ => False)) (hE : EqR M R) (k p q x y z : Int) (hk : 0 ≤ k ∧ k ≤ 255) : Calls Try.prog 17 #[.pointer (some ⟨mg, 0, none⟩), .pointer (some ⟨rg, 0, none⟩), .agg #[.int .u8 k, .int .i64 p, .int .i64 q, .int .i64 x, .int .i64 y, .int .i64 z]] W fun e W' => DoesEnd w mg rg e W' := by
  have h8 : k % 8 = 0 ∨ k % 8 = 1 ∨ k % 8 = 2 ∨ k % 8 = 3 ∨ k % 8 = 4 ∨ k % 8 = 5 ∨ k % 8 = 6 ∨ k % 8 = 7 := by omega
  rcases h8 with hc | hc | hc | hc | hc | hc | hc | hc
  · exact does_0 h hE k p q x y z hk hc
  · exact does_1 h hE k p q x y z hk hc
  · exact does_2 h hE k p q x y z hk hc
  · exact does_3 h hE k p q x y z hk hc
  · exact does_4 h hE k p q x y z hk hc
  · exact does_5 h hE k p q x y z hk hc
  · exact does_6 h hE k p q x y z hk hc
  · exact does_7 h hE k p q x y z hk hc
theorem rnew_yes (w : World) {p q : Int} (h : 1 ≤ p ∧ p ≤ 64 ∧ 1 ≤ q ∧ q ≤ 64) (A : Option Addr) (n c : Nat) : Calls Try.prog 15 #[.int .i64 p, .int .i64 q, iagg A n c] w fun e W' => ∃ rg ag bg cg dg, e = .returned (.tuple #[.pointer (some ⟨rg, 0, none⟩), .int .i64 0]) ∧ RAt W' rg ag bg cg dg (newMe p q A n c) ∧ (∀ b, RF rg ag bg cg dg b → w.heap.size ≤ b) ∧ Below w.heap.size w W' := by
  refine (rnew_any w p q A n c).mono ?_
  rintro e W' (⟨h1, -, -⟩ | ⟨-, h2⟩)
  · exfalso
    unfold arenaN at h1
    rw [if_neg (by omega)] at h1
    omega
  · exact h2
theorem rnew_no (w : World) {p q : Int} (h : arenaN p q = 0) (A : Option Addr) (n c : Nat) : Calls Try.prog 15 #[.int .i64 p, .int .i64 q, iagg A n c] w fun e W' => e = .returned (.tuple #[.pointer none, .int .i64 2]) ∧ Below w.heap.size w W' := by
  refine (rnew_any w p q A n c).mono ?_
  rintro e W' (⟨-, h1, h2⟩ | ⟨h1, -⟩)
  · exact ⟨h1, h2⟩
  · exfalso
    unfold arenaN at h
    rw [if_neg (by omega)] at h
    omega
theorem sq_five {W : World} {g : Nat} {z : Int} (hb : Blk W g [.int .i64 z]) : SqAt W (some ⟨g, 0, none⟩) 1 [z] := by
  refine ⟨rfl, by decide, fun j u hj => ⟨g, rfl, hb.l, ?_⟩⟩
  match j, hj with
  | 0, hj =>
    have e : z = u := by simpa using hj
    subst e
    exact hb.c 0 _ rfl
  | j + 1, hj => simp at hj
theorem po_start {w w1 W1 w3 W : World} {p q : Int} {mg rg ag bg cg dg g1 g2 : Nat} (hb1 : Below w.heap.size w w1) (k1 : Blk w1 g1 [.int .i64 5]) (hm : MO w1 W1 mg (newMe p q (some ⟨g1, 0, none⟩) 1 1) (fun b => b < w1.heap.size)) (hb3 : Below W1.heap.size W1 w3) (h2 : W1.heap.size ≤ g2) (k2 : Blk w3 g2 [.int .i64 5])
    (hr : RAt W rg ag bg cg dg (newMe p q (some ⟨g2, 0, none⟩) 1 1)) (hf : ∀ b, RF rg ag bg cg dg b → w3.heap.size ≤ b) (hb4 : Below w3.heap.size w3 W) :
    PO w W mg rg (newMe p q (some ⟨g1, 0, none⟩) 1 1) (newMe p q (some ⟨g2, 0, none⟩) 1 1) [5] [5] (fun _ _ => False) ∧ EqR (newMe p q (some ⟨g1, 0, none⟩) 1 1) (newMe p q (some ⟨g2, 0, none⟩) 1 1) := by
  have s1 := hb1.size
  have s2 := hm.bw.size
  have s3 := hb3.size
  have s4 := hb4.size
  have l1 := k1.l
  have l2 := k2.l
  have kk1 : Blk W g1 [.int .i64 5] := ((k1.below hm.bw).below hb3).below hb4
  have e1 : ∀ b, SnB (newMe p q (some ⟨g1, 0, none⟩) 1 1).sn b → b = g1 := by
    rintro b ⟨a, e, rfl⟩
    have e : some (⟨g1, 0, none⟩ : Addr) = some a := e
    injection e with e
    subst e
    rfl
  have e2 : ∀ b, SnB (newMe p q (some ⟨g2, 0, none⟩) 1 1).sn b → b = g2 := by
    rintro b ⟨a, e, rfl⟩
    have e : some (⟨g2, 0, none⟩ : Addr) = some a := e
    injection e with e
    subst e
    rfl
  refine ⟨⟨⟨ag, bg, cg, dg, (hm.base hb1).grow (below_next hb3 hb4) ?_, hr, fun b e => by have := hf b e; omega, ?_⟩, sq_five kk1, sq_five (k2.below hb4), fun _ _ e => e.elim⟩, rfl, rfl, rfl⟩
  · rintro b (e | e | e | ⟨vs, e⟩)
    · have := hf b e
      have := hr.foot b e
      exact .inr ⟨by omega, by omega⟩
    · have := e1 b e
      exact .inl (by omega)
    · have := e2 b e
      exact .inr ⟨by omega, by omega⟩
    · exact e.elim
  · rintro b (e | e | ⟨vs, e⟩) e3
    · have := e1 b e
      have := hf b e3
      omega
    · have := e2 b e
      have := hf b e3
      omega
    · exact e.elim
set_option maxRecDepth 100000 in
set_option maxHeartbeats 4000000 in
theorem plays_out (p q : Int) (A : Option Addr) (m cap : Nat) (w : World) (h : arenaN p q = 0 ∨ 100 < m) :
    Calls Try.prog 4 #[.int .i64 p, .int .i64 q, .slice A m cap] w fun e w' => e = .returned (.bool true) ∧ Below w.heap.size w w' := by
  by_cases h1 : 100 < m
  · have h2 : (100 : Int) < (m : Int) := by omega
    clear h
    go_enter Try.func4, Try.ntmps4
    go_wp2_with fail
    go_ret
    exact ⟨rfl, Below.refl _ _⟩
  · have h2 : (m : Int) ≤ 100 := by omega
    have hz : arenaN p q = 0 := by rcases h with h | h; exact h; omega
    have HIM := Lib.hid (fun W => image_at W 5)
    have HN := Lib.hid (fun W => @new_no W p q hz)
    have HR := Lib.hid (fun W => @rnew_no W p q hz)
    have HA := Lib.hid (fun W => arena_any W p q)
    have HB := Lib.hid (fun W => rarena_any W p q)
    rw [hz] at HA HB
    unfold iagg at HIM HN HR
    clear h hz
    go_enter Try.func4, Try.ntmps4
    go_wp2_with fail
    refine (HIM.out _).mono ?_
    rintro e w1 ⟨g1, rfl, hb1, -, -⟩
    go_wp2_with fail
    refine (HN.out _ _ _ _).mono ?_
    rintro e w2 ⟨rfl, hb2⟩
    go_wp2_with fail
    refine (HIM.out _).mono ?_
    rintro e w3 ⟨g2, rfl, hb3, -, -⟩
    go_wp2_with fail
    refine (HR.out _ _ _ _).mono ?_
    rintro e w4 ⟨rfl, hb4⟩
    go_wp2_with fail
    refine (HA.out _).mono ?_
    rintro e w5 ⟨rfl, rfl⟩
    go_wp2_with fail
    refine (HB.out _).mono ?_
    rintro e w6 ⟨rfl, rfl⟩
    go_wp2_with fail
    go_ret
    exact ⟨rfl, below_next (below_next (below_next hb1 hb2) hb3) hb4⟩
set_option maxRecDepth 100000 in
set_option maxHeartbeats 8000000 in
theorem plays_in (p q : Int) (A : Option Addr) (m cap : Nat) (w : World) (hpq : 1 ≤ p ∧ p ≤ 64 ∧ 1 ≤ q ∧ q ≤ 64) (hm : m ≤ 100) (hl : MActs w A m) :
    Calls Try.prog 4 #[.int .i64 p, .int .i64 q, .slice A m cap] w fun e w' => e = .returned (.bool true) ∧ Below w.heap.size w w' := by
  have h2 : (m : Int) ≤ 100 := by omega
  have HIM := Lib.hid (fun W => image_at W 5)
  have HN := Lib.hid (fun W => @new_yes W p q hpq)
  have HR := Lib.hid (fun W => @rnew_yes W p q hpq)
  have HA := Lib.hid (fun W => arena_any W p q)
  have HB := Lib.hid (fun W => rarena_any W p q)
  have hN : ((arenaN p q) != (arenaN p q)) = false := by simp
  generalize arenaN p q = N at *
  unfold iagg at HIM HN HR
  have HP := Lib.hid hl
  clear hl hpq
  go_enter Try.func4, Try.ntmps4
  go_wp2_with fail
  refine (HIM.out _).mono ?_
  rintro e w1 ⟨g1, rfl, hb1, hg1, k1⟩
  have H1 := Lib.hid (And.intro hb1 k1)
  clear hb1 hg1 k1
  go_wp2_with fail
  refine (HN.out _ _ _ _).mono ?_
  rintro e w2 ⟨mg, rfl, hm2⟩
  have H2 := Lib.hid hm2
  clear hm2
  go_wp2_with fail
  refine (HIM.out _).mono ?_
  rintro e w3 ⟨g2, rfl, hb3, hg2, k3⟩
  have H3 := Lib.hid (And.intro hb3 (And.intro hg2 k3))
  clear hb3 hg2 k3
  go_wp2_with fail
  refine (HR.out _ _ _ _).mono ?_
  rintro e w4 ⟨rg, ag, bg, cg, dg, rfl, hr, hf, hb4⟩
  have H4 := Lib.hid (po_start H1.out.1 H1.out.2 H2.out H3.out.1 H3.out.2.1 H3.out.2.2 hr hf hb4)
  clear hr hf hb4 H1 H2 H3
  generalize newMe p q (some ⟨g1, 0, none⟩) 1 1 = M0 at *
  generalize newMe p q (some ⟨g2, 0, none⟩) 1 1 = R0 at *
  go_wp2_with fail
  refine (HA.out _).mono ?_
  rintro e w5 ⟨rfl, rfl⟩
  go_wp2_with fail
  refine (HB.out _).mono ?_
  rintro e w6 ⟨rfl, rfl⟩
  go_wp2_with fail
  go_loopw [11] (fun i wr => ∃ (k : Nat) (M R : Me) (xs : List Int), k ≤ m ∧ i = .int .i64 k ∧ PO w wr mg rg M R xs xs (fun _ _ => False) ∧ EqR M R) (fun i _ => m - (intOf i).toNat)
  case atStart => exact ⟨0, _, _, _, by omega, rfl, H4.out.1, H4.out.2⟩
  case round =>
    obtain ⟨k, M, R, xs, hk, rfl, hwr, hE⟩ := hrel
    clear H4
    by_cases hlt : k < m
    · obtain ⟨ga, oa, ka, pa, qa, xa, ya, za, rfl, hga, hka, hpa, hqa, hxa, hya, hza, hc0, hc1, hc2, hc3, hc4, hc5⟩ := HP.out k hlt
      have d0 := (hwr.bw.cell (p := ⟨ga, oa + k * 6, none⟩) hga).trans hc0
      have d1 := (hwr.bw.cell (p := ⟨ga, oa + k * 6 + 1, none⟩) hga).trans hc1
      have d2 := (hwr.bw.cell (p := ⟨ga, oa + k * 6 + 2, none⟩) hga).trans hc2
      have d3 := (hwr.bw.cell (p := ⟨ga, oa + k * 6 + 3, none⟩) hga).trans hc3
      have d4 := (hwr.bw.cell (p := ⟨ga, oa + k * 6 + 4, none⟩) hga).trans hc4
      have d5 := (hwr.bw.cell (p := ⟨ga, oa + k * 6 + 5, none⟩) hga).trans hc5
      have hgl : ga < wr.heap.size := Nat.lt_of_lt_of_le hga hwr.bw.size
      have HD := Lib.hid (does_any hwr hE ka pa qa xa ya za hka)
      clear hc0 hc1 hc2 hc3 hc4 hc5 hwr hE hpa hqa hxa hya hza
      have km : (k : Int) < (m : Int) := by omega
      by_cases h5 : (k : Int) % 5 = 4
      · have t5 : ((k : Int) % 5 == 4) = true := beq_iff_eq.2 h5
        clear h5
        go_wp2_with fail
        refine HD.out.mono ?_
        rintro e w7 ⟨rfl, M2, R2, xs2, h7, hE2⟩
        have H7 := Lib.hid (And.intro h7 hE2)
        have HT := Lib.hid (tells_ok h7 hE2)
        clear h7 hE2 HD d0 d1 d2 d3 d4 d5
        go_wp2_with fail
        refine HT.out.mono ?_
        rintro e w8 ⟨rfl, hb8⟩
        have H8 := Lib.hid (H7.out.1.below hb8)
        clear hb8 HT
        go_wp2_with fail
        go_roundw
        case rel => exact ⟨k + 1, _, _, _, by omega, by go_num, H8.out, H7.out.2⟩
        case measure => first | (simp [intOf]; done) | (simp [intOf]; omega)
      · have t5 : ((k : Int) % 5 == 4) = false := by rw [beq_eq_false_iff_ne]; exact h5
        clear h5
        go_wp2_with fail
        refine HD.out.mono ?_
        rintro e w7 ⟨rfl, M2, R2, xs2, h7, hE2⟩
        have H7 := Lib.hid (And.intro h7 hE2)
        clear h7 hE2 HD d0 d1 d2 d3 d4 d5
        go_wp2_with fail
        go_roundw
        case rel => exact ⟨k + 1, _, _, _, by omega, by go_num, H7.out.1, H7.out.2⟩
        case measure => first | (simp [intOf]; done) | (simp [intOf]; omega)
    · obtain rfl : k = m := by omega
      have HT := Lib.hid (tells_ok hwr hE)
      have HW := Lib.hid hwr
      clear hwr hE
      go_wp2_with fail
      refine HT.out.mono ?_
      rintro e w8 ⟨rfl, hb8⟩
      go_wp2_with fail
      go_ret
      exact ⟨rfl, below_next HW.out.bw hb8⟩
set_option maxRecDepth 100000 in
theorem plays_all (p q : Int) (A : Option Addr) (m cap : Nat) (w : World) {n : Nat} (d : deepOk Try.prog w (n + 4) 22 [.slice A m cap]) :
    Calls Try.prog 4 #[.int .i64 p, .int .i64 q, .slice A m cap] w fun e w' => e = .returned (.bool true) ∧ Below w.heap.size w w' := by
  by_cases h : arenaN p q = 0 ∨ 100 < m
  · exact plays_out p q A m cap w h
  · have h2 : ¬ (p < 1 ∨ 64 < p ∨ q < 1 ∨ 64 < q) := fun e => h (.inl (by unfold arenaN; rw [if_pos e]))
    exact plays_in p q A m cap w (by omega) (by omega) (macts_of d)
#print axioms plays_all
end Go.Proofs.Ythllfeogchbihac
