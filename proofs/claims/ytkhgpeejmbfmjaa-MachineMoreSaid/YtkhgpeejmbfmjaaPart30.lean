/- Parts of the walk, joined. -/
import Derived.Test.YtkhgpeejmbfmjaaPart29
import Derived.Test.YtkhgpeejmbfmjaaPart01
import Derived.Test.YtkhgpeejmbfmjaaPart28
/- A call: its contract. -/
namespace Go.Proofs.Ytkhgpeejmbfmjaa
open Go.RowKit
set_option linter.unusedSimpArgs false
set_option linter.unusedVariables false
set_option maxRecDepth 100000
section
variable {w0 W : World} {X : Sx} {rb : Nat} {fgs : List Nat} {c : Nat} {s : Mc} {K : Nat → Prop} {fg : Nat}

/-- A call, of any module, with limits that the document lets in at most. -/
theorem run_any {Mg : Option Addr} {nmg cmg : Nat} {mgs : List V} {Aa : Option Addr} {na ca : Nat} {vs : List V} {Ab : Option Addr} {ng cb : Nat} {gs : List V} (h : Given W X Mg nmg cmg mgs Aa na vs Ab ng gs) (i : Int) (hfuel : X.l.fuel ≤ 20000) : Calls Try.prog 8 #[modV X, .int .i64 i, .slice Aa na ca, .slice Ab ng cb, limV X.l] W fun e W' => RunEnd W (runR X.m X.l i vs gs) e W' := by
  rcases Bool.eq_false_or_eq_true (beginB X.m i vs gs X.l) with hb | hb
  · exact run_yes h i hb hfuel
  · exact run_no h i hb
end
#print axioms run_any
end Go.Proofs.Ytkhgpeejmbfmjaa
/- Values compared, one by one. -/
namespace Go.Proofs.Ytkhgpeejmbfmjaa
open Go.RowKit
set_option linter.unusedSimpArgs false
set_option linter.unusedVariables false
set_option maxRecDepth 100000
section
variable {w0 W : World} {X : Sx} {rb : Nat} {fgs : List Nat} {c : Nat} {s : Mc} {K : Nat → Prop} {fg : Nat}

set_option maxHeartbeats 1000000 in
theorem same_any (A A' : Option Addr) (m ca m' ca' : Nat) (u v : List V) (w : World) (ha : VsAt w A m u) (hb : VsAt w A' m' v) (hm : m ≤ 3000) (hm' : m' ≤ 3000) :
    Calls Try.prog 10 #[.slice A m ca, .slice A' m' ca'] w fun e w' => e = .returned (.bool (decide (u = v))) ∧ Below w.heap.size w w' := by
  by_cases hmm : m = m'
  · subst hmm
    have HA := Lib.hid ha
    have HB := Lib.hid hb
    clear ha hb
    go_enter Try.func10, Try.ntmps10
    go_wp2_with fail
    go_loopw [5] (fun i wr => ∃ k q : Nat, k ≤ m ∧ i = .int .i64 k ∧ (∀ j, j < k → u[j]? = v[j]?) ∧ wr = w.drewN q) (fun i _ => m - (intOf i).toNat)
    case atStart => exact ⟨0, 0, by omega, rfl, fun j hj => by omega, rfl⟩
    case round =>
      obtain ⟨k, q, hk, rfl, hs, rfl⟩ := hrel
      have HS := Lib.hid hs
      clear hs
      by_cases hlt : k < m
      · have hku : k < u.length := by rw [HA.out.1]; exact hlt
        have hkv : k < v.length := by rw [HB.out.1]; exact hlt
        obtain ⟨b, off, rfl, hbl, -, c0, c1, c2⟩ := HA.out.2 k hku
        obtain ⟨b', off', rfl, hbl', -, d0, d1, d2⟩ := HB.out.2 k hkv
        have HX := Lib.hid (List.getElem?_eq_getElem hku)
        have HY := Lib.hid (List.getElem?_eq_getElem hkv)
        generalize u[k] = x at *
        generalize v[k] = y at *
        obtain ⟨x0, x1, x2⟩ := x
        obtain ⟨y0, y1, y2⟩ := y
        simp only at c0 c1 c2 d0 d1 d2
        clear hku hkv
        by_cases hxy : (x0, x1, x2) = (y0, y1, y2)
        · have hn := fun W => val_neq x0 x1 x2 y0 y1 y2 W true (decide_eq_true hxy)
          have HXY := Lib.hid hxy
          clear hxy
          go_wp2_with fail
          go_quiet (fail)
          go_wp2_with fail
          go_roundw
          case rel =>
            refine ⟨k + 1, _, by omega, by go_num, fun j hj => ?_, by first | rfl | rw [World.drewN_drewN]⟩
            by_cases e : j = k
            · subst e
              rw [HX.out, HY.out, HXY.out]
            · exact HS.out j (by omega)
          case measure => simp [intOf]; omega
        · have hn := fun W => val_neq x0 x1 x2 y0 y1 y2 W false (decide_eq_false hxy)
          have HXY : Hid (¬ (x0, x1, x2) = (y0, y1, y2)) := Lib.hid hxy
          clear hxy
          go_wp2_with fail
          go_quiet (fail)
          go_wp2_with fail
          go_ret
          have h3 : decide (u = v) = false := by
            rw [decide_eq_false_iff_not]
            intro e
            apply HXY.out
            have h1 := HX.out
            rw [e, HY.out] at h1
            injection h1 with h1
            exact h1.symm
          exact ⟨by rw [h3]; rfl, (by first | (exact (Touch.drewN (Touch.refl (fun _ => False) w) _).below (Nat.le_refl _) (fun j hj => hj.elim)) | (rw [World.drewN_drewN]; exact (Touch.drewN (Touch.refl (fun _ => False) w) _).below (Nat.le_refl _) (fun j hj => hj.elim)))⟩
      · have huv : decide (u = v) = true := by
          rw [decide_eq_true_iff]
          apply List.ext_getElem?
          intro i
          by_cases hi : i < k
          · exact HS.out i hi
          · rw [List.getElem?_eq_none (by rw [HA.out.1]; omega), List.getElem?_eq_none (by rw [HB.out.1]; omega)]
        have HUV := Lib.hid huv
        clear huv
        go_wp2_with fail
        go_ret
        exact ⟨by rw [HUV.out]; rfl, (Touch.drewN (Touch.refl (fun _ => False) w) _).below (Nat.le_refl _) (fun j hj => hj.elim)⟩
  · have h1 : ((m : Int) == (m' : Int)) = false := by rw [beq_eq_false_iff_ne]; omega
    have h2 : ((m : Int) != (m' : Int)) = true := by simp; omega
    have h3 : decide (u = v) = false := by
      rw [decide_eq_false_iff_not]
      intro e
      have e1 := ha.1
      have e2 := hb.1
      rw [e] at e1
      omega
    rw [h3]
    clear ha hb hmm h3
    go_enter Try.func10, Try.ntmps10
    go_wp2_with fail
    go_ret
    exact ⟨rfl, Below.refl _ _⟩
end
#print axioms same_any
end Go.Proofs.Ytkhgpeejmbfmjaa
/- The greatest limits; a number. -/
namespace Go.Proofs.Ytkhgpeejmbfmjaa
open Go.RowKit
set_option linter.unusedSimpArgs false
set_option linter.unusedVariables false
set_option maxRecDepth 100000
section
variable {w0 W : World} {X : Sx} {rb : Nat} {fgs : List Nat} {c : Nat} {s : Mc} {K : Nat → Prop} {fg : Nat}

theorem most_any (w : World) : Calls Try.prog 9 #[] w fun e w' => e = .returned (limV ⟨20000, 256, 1024⟩) ∧ Below w.heap.size w w' := by
  unfold limV
  go_enter Try.func9, Try.ntmps9
  go_wp2_with fail
  exact bodyPost_ret (v := .agg #[.int .i64 20000, .int .i64 256, .int .i64 1024]) (by simp [results, Try.results9, go_sem]) rfl ⟨rfl, (Below.refl _ _).alloc (Nat.le_refl _) _⟩
theorem num_any (n : Int) (w : World) : Calls Try.prog 12 #[.int .i64 n] w fun e w' => e = .returned (.agg #[.int .u8 1, .int .i64 n, .int .i64 0]) ∧ Below w.heap.size w w' := by
  go_enter Try.func12, Try.ntmps12
  go_wp2_with fail
  exact bodyPost_ret (v := .agg #[.int .u8 1, .int .i64 n, .int .i64 0]) (by simp [results, Try.results12, go_sem]) rfl ⟨rfl, (Below.refl _ _).alloc (Nat.le_refl _) _⟩
end
#print axioms most_any
#print axioms num_any
end Go.Proofs.Ytkhgpeejmbfmjaa
/- The examples: what they come to. -/
namespace Go.Proofs.Ytkhgpeejmbfmjaa
open Go.RowKit
set_option linter.unusedSimpArgs false
set_option linter.unusedVariables false
set_option maxRecDepth 100000
section
variable {w0 W : World} {X : Sx} {rb : Nat} {fgs : List Nat} {c : Nat} {s : Mc} {K : Nat → Prop} {fg : Nat}

def mdD (n : Int) : Md := ⟨[(1, 7, 0), (1, n, 0)], [⟨[], [], 1, [(1, 0), (1, 1), (12, 0), (31, 0)]⟩], []⟩
def mdL : Md := ⟨[(1, 3, 0)], [⟨[], [], 1, [(28, 4), (4, 0), (1, 0), (9, 0), (5, 0), (29, 0), (4, 0), (31, 0)]⟩], [1]⟩
theorem aw1 : runR (mdD 2) ⟨20000, 256, 1024⟩ 0 [] [] = ([], (0, (1, 3, 0)), (4, 2, 0), 0) := by kernel_rfl
theorem aw2 : runR (mdD 0) ⟨20000, 256, 1024⟩ 0 [] [] = ([], (1, zv), (3, 2, 0), 0) := by kernel_rfl
theorem aw3 : runR (mdD 2) ⟨3, 9, 0⟩ 0 [] [] = ([], (0, zv), (0, 0, 0), 170) := by kernel_rfl
theorem aw4 : runR (mdD 2) ⟨4, 1, 0⟩ 0 [] [] = ([], (0, zv), (0, 0, 0), 101) := by kernel_rfl
theorem aw5 : runR mdL ⟨20000, 256, 1024⟩ 0 [] [(1, 5, 0)] = ([(1, 17, 0)], (0, (1, 17, 0)), (23, 2, 0), 0) := by kernel_rfl
end
#print axioms aw3
#print axioms aw4
#print axioms aw5
end Go.Proofs.Ytkhgpeejmbfmjaa
/- divides: a module of one method. -/
namespace Go.Proofs.Ytkhgpeejmbfmjaa
open Go.RowKit
set_option linter.unusedSimpArgs false
set_option linter.unusedVariables false
set_option maxRecDepth 100000
section
variable {w0 W : World} {X : Sx} {rb : Nat} {fgs : List Nat} {c : Nat} {s : Mc} {K : Nat → Prop} {fg : Nat}

def dx (n : Int) (l : Lm) (p q : Nat) : Sx := ⟨mdD n, l, .slice none 0 0, some ⟨p, 0, none⟩, 2, 2, some ⟨q, 0, none⟩, 1, 1, -1, 0⟩
/-- The instructions' cells. -/
def ics (l : List (Int × Int)) : List Value := vcs (l.map fun x => (x.1, x.2, 0))
theorem ins_of {W : World} {b : Nat} {l : List (Int × Int)} (h : Blk W b (ics l)) (hl : ∀ x ∈ l, (0 ≤ x.1 ∧ x.1 ≤ 255) ∧ I64 x.2) : InsAt W (some ⟨b, 0, none⟩) l.length l := by
  refine ⟨rfl, fun i hi => ?_⟩
  obtain ⟨a0, a1, a2⟩ := vcs_get (l.map fun x => (x.1, x.2, (0 : Int))) i (by simpa using hi)
  have hk := hl _ (List.getElem_mem hi)
  refine ⟨b, 0, 0, rfl, h.l, hk.1, hk.2, ?_, ?_, ?_⟩
  · have := h.c _ _ a0; simpa using this
  · have := h.c _ _ a1; simpa using this
  · have := h.c _ _ a2; simpa using this
theorem mod_of {W : World} {p q cb : Nat} {pool : List V} {code : List (Int × Int)} {n np cp nc : Nat} (hp : Blk W p (vcs pool)) (hv : ∀ v ∈ pool, VOk v) (hc : Blk W cb (ics code)) (hl : ∀ x ∈ code, (0 ≤ x.1 ∧ x.1 ≤ 255) ∧ I64 x.2)
    (hq : Blk W q [.slice none 0 0, .slice none 0 0, .int .u8 1, .bool false, .int .i64 0, .int .i64 0, .int .i64 0, .slice (some ⟨cb, 0, none⟩) n nc]) (h1 : pool.length = np) (h2 : np ≤ 40) (h3 : code.length = n) (h4 : n ≤ 250) (gk : List Int) (l : Lm) (mg : Value) (c1 : Nat) (mi : Int) :
    ModAt W ⟨⟨pool, [⟨[], [], 1, code⟩], gk⟩, l, mg, some ⟨p, 0, none⟩, np, cp, some ⟨q, 0, none⟩, 1, c1, mi, 0⟩ := by
  subst h1 h3
  refine ⟨vs_at hp hv, h2, rfl, fun i hi => ?_, (show (1 : Nat) ≤ 20 from by decide)⟩
  obtain rfl : i = 0 := by have : i < 1 := hi; omega
  refine ⟨q, 0, rfl, hq.l, none, 0, 0, none, 0, 0, _, _, nc, false, 0, 0, 0, hq.c 0 _ rfl, hq.c 1 _ rfl, hq.c 2 _ rfl, hq.c 3 _ rfl, hq.c 4 _ rfl, hq.c 5 _ rfl, hq.c 6 _ rfl, hq.c 7 _ rfl, BytesAt.nil _ _, BytesAt.nil _ _, ins_of hc hl, by decide, by decide, h4, ⟨(show (0 : Int) ≤ 1 from by decide), (show (1 : Int) ≤ 255 from by decide)⟩⟩
set_option maxHeartbeats 2000000 in
theorem divides_any (n : Int) (hn : I64 n) (w : World) : Calls Try.prog 11 #[.int .i64 n] w fun e w' => ∃ p q, e = .returned (.agg #[.slice none 0 0, .slice (some ⟨p, 0, none⟩) 2 2, .slice (some ⟨q, 0, none⟩) 1 1, .int .i64 (-1)]) ∧ Below w.heap.size w w' ∧ ∀ l, ModAt w' (dx n l p q) := by
  have HB1 : Hid (Below w.heap.size w (w.alloc (.cells #[.slice none 0 0, .slice none 0 0, .slice none 0 0, .int .i64 0] 25))) := Lib.hid ((Below.refl _ _).alloc (Nat.le_refl _) _)
  have HR : Hid (Blk (w.alloc (.cells #[.slice none 0 0, .slice none 0 0, .slice none 0 0, .int .i64 0] 25)) w.heap.size [.slice none 0 0, .slice none 0 0, .slice none 0 0, .int .i64 0]) := Lib.hid (Blk.new _ _ _)
  have HN := fun (n : Int) (W : World) => Lib.hid (num_any n W)
  have HN64 := Lib.hid hn
  clear hn
  go_enter Try.func11, Try.ntmps11
  go_wp2_with fail
  refine (HN 7 _).out.mono ?_
  rintro e w2 ⟨rfl, hb2⟩
  have H2 := Lib.hid hb2
  clear hb2
  go_wp2_with fail
  refine (HN n _).out.mono ?_
  rintro e w3 ⟨rfl, hb3⟩
  have H3 := Lib.hid hb3
  clear hb3
  have R3 := (HR.out.below H2.out).below H3.out
  have hb03 := below_next (HB1.out.trans ((H2.out).mono (by simp only [World.size_alloc]; omega))) H3.out
  have hne : w.heap.size < w3.heap.size := R3.l
  have R6 := ((R3.alloc (.cells #[.int .u8 1, .int .i64 7, .int .i64 0, .int .u8 1, .int .i64 n, .int .i64 0] 29)).alloc (.cells #[.int .u8 1, .int .i64 0, .int .i64 0, .int .u8 1, .int .i64 1, .int .i64 0, .int .u8 12, .int .i64 0, .int .i64 0, .int .u8 31, .int .i64 0, .int .i64 0] 46)).alloc (.cells #[.slice none 0 0, .slice none 0 0, .int .u8 1, .bool false, .int .i64 0, .int .i64 0, .int .i64 0, .slice (some ⟨w3.heap.size + 1, 0, none⟩) 4 4] 50)
  have P6 := ((Blk.new w3 #[.int .u8 1, .int .i64 7, .int .i64 0, .int .u8 1, .int .i64 n, .int .i64 0] 29).alloc (.cells #[.int .u8 1, .int .i64 0, .int .i64 0, .int .u8 1, .int .i64 1, .int .i64 0, .int .u8 12, .int .i64 0, .int .i64 0, .int .u8 31, .int .i64 0, .int .i64 0] 46)).alloc (.cells #[.slice none 0 0, .slice none 0 0, .int .u8 1, .bool false, .int .i64 0, .int .i64 0, .int .i64 0, .slice (some ⟨w3.heap.size + 1, 0, none⟩) 4 4] 50)
  have C6 := (Blk.new (w3.alloc (.cells #[.int .u8 1, .int .i64 7, .int .i64 0, .int .u8 1, .int .i64 n, .int .i64 0] 29)) #[.int .u8 1, .int .i64 0, .int .i64 0, .int .u8 1, .int .i64 1, .int .i64 0, .int .u8 12, .int .i64 0, .int .i64 0, .int .u8 31, .int .i64 0, .int .i64 0] 46).alloc (.cells #[.slice none 0 0, .slice none 0 0, .int .u8 1, .bool false, .int .i64 0, .int .i64 0, .int .i64 0, .slice (some ⟨w3.heap.size + 1, 0, none⟩) 4 4] 50)
  have M6 := Blk.new ((w3.alloc (.cells #[.int .u8 1, .int .i64 7, .int .i64 0, .int .u8 1, .int .i64 n, .int .i64 0] 29)).alloc (.cells #[.int .u8 1, .int .i64 0, .int .i64 0, .int .u8 1, .int .i64 1, .int .i64 0, .int .u8 12, .int .i64 0, .int .i64 0, .int .u8 31, .int .i64 0, .int .i64 0] 46)) #[.slice none 0 0, .slice none 0 0, .int .u8 1, .bool false, .int .i64 0, .int .i64 0, .int .i64 0, .slice (some ⟨w3.heap.size + 1, 0, none⟩) 4 4] 50
  have B6 : Below w.heap.size w (((w3.alloc (.cells #[.int .u8 1, .int .i64 7, .int .i64 0, .int .u8 1, .int .i64 n, .int .i64 0] 29)).alloc (.cells #[.int .u8 1, .int .i64 0, .int .i64 0, .int .u8 1, .int .i64 1, .int .i64 0, .int .u8 12, .int .i64 0, .int .i64 0, .int .u8 31, .int .i64 0, .int .i64 0] 46)).alloc (.cells #[.slice none 0 0, .slice none 0 0, .int .u8 1, .bool false, .int .i64 0, .int .i64 0, .int .i64 0, .slice (some ⟨w3.heap.size + 1, 0, none⟩) 4 4] 50)) := ((hb03.alloc (by omega) _).alloc (by simp only [World.size_alloc]; omega) _).alloc (by simp only [World.size_alloc]; omega) _
  simp only [World.size_alloc] at P6 C6 M6
  have r0 := R6.c 0 _ rfl
  have r1 := R6.c 1 _ rfl
  have r2 := R6.c 2 _ rfl
  have r3 := R6.c 3 _ rfl
  have fr0 := R6.f 0
  have fr1 := R6.f 1
  have fr2 := R6.f 2
  have fr3 := R6.f 3
  have lr := R6.l
  have S6 := (((R6.set (j := 0) rfl (.slice none 0 0)).set (j := 1) rfl (.slice (some ⟨w3.heap.size, 0, none⟩) 2 2)).set (j := 2) rfl (.slice (some ⟨w3.heap.size + 1 + 1, 0, none⟩) 1 1)).set (j := 3) rfl (.int .i64 (-1))
  have P7 := (((P6.other (b' := w.heap.size) (by omega) 0 (.slice none 0 0)).other (b' := w.heap.size) (by omega) 1 (.slice (some ⟨w3.heap.size, 0, none⟩) 2 2)).other (b' := w.heap.size) (by omega) 2 (.slice (some ⟨w3.heap.size + 1 + 1, 0, none⟩) 1 1)).other (b' := w.heap.size) (by omega) 3 (.int .i64 (-1))
  have C7 := (((C6.other (b' := w.heap.size) (by omega) 0 (.slice none 0 0)).other (b' := w.heap.size) (by omega) 1 (.slice (some ⟨w3.heap.size, 0, none⟩) 2 2)).other (b' := w.heap.size) (by omega) 2 (.slice (some ⟨w3.heap.size + 1 + 1, 0, none⟩) 1 1)).other (b' := w.heap.size) (by omega) 3 (.int .i64 (-1))
  have M7 := (((M6.other (b' := w.heap.size) (by omega) 0 (.slice none 0 0)).other (b' := w.heap.size) (by omega) 1 (.slice (some ⟨w3.heap.size, 0, none⟩) 2 2)).other (b' := w.heap.size) (by omega) 2 (.slice (some ⟨w3.heap.size + 1 + 1, 0, none⟩) 1 1)).other (b' := w.heap.size) (by omega) 3 (.int .i64 (-1))
  have B7 := Blk.below_set (Blk.below_set (Blk.below_set (Blk.below_set B6 (Nat.le_refl _) 0 (.slice none 0 0)) (Nat.le_refl _) 1 (.slice (some ⟨w3.heap.size, 0, none⟩) 2 2)) (Nat.le_refl _) 2 (.slice (some ⟨w3.heap.size + 1 + 1, 0, none⟩) 1 1)) (Nat.le_refl _) 3 (.int .i64 (-1))
  have z0 := S6.c 0 _ rfl
  have z1 := S6.c 1 _ rfl
  have z2 := S6.c 2 _ rfl
  have z3 := S6.c 3 _ rfl
  have lz := S6.l
  have HM := Lib.hid (And.intro B7 (fun l => mod_of (pool := [(1, 7, 0), (1, n, 0)]) (code := [(1, 0), (1, 1), (12, 0), (31, 0)]) (np := 2) (cp := 2) P7 (by
    intro v hv
    have hn := HN64.out
    simp only [List.mem_cons, List.not_mem_nil, or_false] at hv
    rcases hv with rfl | rfl
    · exact ⟨by show (0 : Int) ≤ 1 ∧ (1 : Int) ≤ 255; decide, by show I64 7; unfold I64; decide, by show I64 0; unfold I64; decide⟩
    · exact ⟨by show (0 : Int) ≤ 1 ∧ (1 : Int) ≤ 255; decide, hn, by show I64 0; unfold I64; decide⟩) C7 (by
    intro x hx
    simp only [List.mem_cons, List.not_mem_nil, or_false] at hx
    rcases hx with rfl | rfl | rfl | rfl <;> exact ⟨by decide, by unfold I64; decide⟩) M7 rfl (by decide) rfl (by decide) [] l (.slice none 0 0) 1 (-1)))
  clear R3 R6 P6 C6 M6 B6 S6 P7 C7 M7 B7 hb03 hne HN
  go_wp2_with fail
  exact bodyPost_ret (v := .agg #[.slice none 0 0, .slice (some ⟨w3.heap.size, 0, none⟩) 2 2, .slice (some ⟨w3.heap.size + 1 + 1, 0, none⟩) 1 1, .int .i64 (-1)]) (by simp [results, Try.results11, go_sem, z0, z1, z2, z3]) rfl ⟨_, _, rfl, HM.out.1, HM.out.2⟩
end
#print axioms ins_of
#print axioms mod_of
#print axioms divides_any
end Go.Proofs.Ytkhgpeejmbfmjaa
/- Great: is a module more than is gone through here? -/
namespace Go.Proofs.Ytkhgpeejmbfmjaa
open Go.RowKit
set_option linter.unusedSimpArgs false
set_option linter.unusedVariables false
set_option maxRecDepth 100000
section
variable {w0 W : World} {X : Sx} {rb : Nat} {fgs : List Nat} {c : Nat} {s : Mc} {K : Nat → Prop} {fg : Nat}

/-- A method of eight cells, however great. -/
structure Pm where
  Aa : Option Addr
  na : Nat
  ca : Nat
  Al : Option Addr
  nl : Nat
  cl : Nat
  res : Int
  rd : Bool
  f1 : Int
  f2 : Int
  f3 : Int
  Ac : Option Addr
  nc : Nat
  cc : Nat
def pmcells (p : Pm) : List Value := [.slice p.Aa p.na p.ca, .slice p.Al p.nl p.cl, .int .u8 p.res, .bool p.rd, .int .i64 p.f1, .int .i64 p.f2, .int .i64 p.f3, .slice p.Ac p.nc p.cc]
def PmsAt (w : World) (A : Option Addr) (n : Nat) (ps : List Pm) : Prop :=
  ps.length = n ∧ ∀ i (h : i < ps.length), ∃ g o, A = some ⟨g, o, none⟩ ∧ g < w.heap.size ∧ ∀ j v, (pmcells ps[i])[j]? = some v → w.cell? ⟨g, o + i * 8 + j, none⟩ = some v
theorem PmsAt.below {w w' : World} {A : Option Addr} {n : Nat} {ps : List Pm} (h : PmsAt w A n ps) (hb : Below w.heap.size w w') : PmsAt w' A n ps :=
  ⟨h.1, fun i hi => by
    obtain ⟨g, o, e, hg, hc⟩ := h.2 i hi
    exact ⟨g, o, e, Nat.lt_of_lt_of_le hg hb.size, fun j v hj => (hb.cell (p := ⟨g, _, none⟩) hg).trans (hc j v hj)⟩⟩
def pmB (p : Pm) : Bool := decide (p.na ≤ 20) && (decide (p.nl ≤ 20) && decide (p.nc ≤ 250))
/-- Is a module within what is gone through here? -/
def greatB (ng np nm : Nat) (ps : List Pm) : Bool := decide (ng ≤ 10) && (decide (np ≤ 40) && (decide (nm ≤ 20) && ps.all pmB))
set_option maxHeartbeats 2000000 in
theorem great_any (Mg : Option Addr) (ng cg : Nat) (Mp : Option Addr) (np cp : Nat) (Mm : Option Addr) (nm cm : Nat) (mi : Int) (ps : List Pm) (w : World) (hp : PmsAt w Mm nm ps) :
    Calls Try.prog 7 #[.agg #[.slice Mg ng cg, .slice Mp np cp, .slice Mm nm cm, .int .i64 mi]] w fun e w' => e = .returned (.bool (!greatB ng np nm ps)) ∧ Below w.heap.size w w' := by
  obtain ⟨w1, hw1⟩ : ∃ V, w.alloc (.cells #[.slice Mg ng cg, .slice Mp np cp, .slice Mm nm cm, .int .i64 mi] 25) = V := ⟨_, rfl⟩
  obtain ⟨b, hb⟩ : ∃ b, w.heap.size = b := ⟨_, rfl⟩
  have B1 : Blk w1 b [.slice Mg ng cg, .slice Mp np cp, .slice Mm nm cm, .int .i64 mi] := by rw [← hw1, ← hb]; exact Blk.new _ _ _
  have hB1 : Below w.heap.size w w1 := by rw [← hw1]; exact (Below.refl _ _).alloc (Nat.le_refl _) _
  have HW := Lib.hid (And.intro hw1 hb)
  have HB := Lib.hid (And.intro B1 (And.intro hB1 (hp.below hB1)))
  have r0 := HB.out.1.c 0 _ rfl
  have r1 := HB.out.1.c 1 _ rfl
  have r2 := HB.out.1.c 2 _ rfl
  have r3 := HB.out.1.c 3 _ rfl
  have fr0 := HB.out.1.f 0
  have fr1 := HB.out.1.f 1
  have fr2 := HB.out.1.f 2
  have fr3 := HB.out.1.f 3
  have lr := HB.out.1.l
  clear hw1 hb B1 hB1 hp
  by_cases h1 : ng ≤ 10
  · by_cases h2 : np ≤ 40
    · by_cases h3 : nm ≤ 20
      · have eg : greatB ng np nm ps = ps.all pmB := by unfold greatB; rw [decide_eq_true h1, decide_eq_true h2, decide_eq_true h3]; rfl
        rw [eg]
        have q1 : decide ((10 : Int) < (ng : Int)) = false := by rw [decide_eq_false_iff_not]; omega
        have q2 : decide ((40 : Int) < (np : Int)) = false := by rw [decide_eq_false_iff_not]; omega
        have q3 : decide ((20 : Int) < (nm : Int)) = false := by rw [decide_eq_false_iff_not]; omega
        have q4 : ¬ ((10 : Int) < (ng : Int)) := by omega
        have q5 : ¬ ((40 : Int) < (np : Int)) := by omega
        have q6 : ¬ ((20 : Int) < (nm : Int)) := by omega
        clear eg h1 h2
        go_enter Try.func7, Try.ntmps7
        go_wp2_with fail
        rw [HW.out.1, HW.out.2]
        go_wp2_with fail
        go_loopw [3] (fun i wr => ∃ k : Nat, k ≤ nm ∧ i = .int .i64 k ∧ (ps.take k).all pmB = true ∧ Below w1.heap.size w1 wr) (fun i _ => nm - (intOf i).toNat)
        case atStart => exact ⟨0, Nat.zero_le _, rfl, rfl, Below.refl _ _⟩
        case round =>
          obtain ⟨k, hk, rfl, hall, hBr⟩ := hrel
          have Bk := HB.out.1.below hBr
          have s0 := Bk.c 0 _ rfl
          have s1 := Bk.c 1 _ rfl
          have s2 := Bk.c 2 _ rfl
          have s3 := Bk.c 3 _ rfl
          have fs0 := Bk.f 0
          have fs1 := Bk.f 1
          have fs2 := Bk.f 2
          have fs3 := Bk.f 3
          have ls := Bk.l
          by_cases hlt : k < nm
          · have hkp : k < ps.length := by rw [HB.out.2.2.1]; exact hlt
            obtain ⟨g, o, eA, hg, hc⟩ := (HB.out.2.2.below hBr).2 k hkp
            subst eA
            have hki : (k : Int) < (nm : Int) := by omega
            have hst : (ps.take (k + 1)).all pmB = pmB ps[k] := by rw [List.take_succ_eq_append_getElem hkp, List.all_append, hall]; simp
            have hal : pmB ps[k] = false → ps.all pmB = false := by
              intro hq
              rw [← List.take_append_drop (k + 1) ps, List.all_append, hst, hq]
              rfl
            generalize ps[k] = p at *
            obtain ⟨Aa, na, ca, Al, nl, cl, res, rd, f1, f2, f3, Ac, nc, cc⟩ := p
            have c0 := hc 0 _ rfl
            have c1 := hc 1 _ rfl
            have c2 := hc 2 _ rfl
            have c3 := hc 3 _ rfl
            have c4 := hc 4 _ rfl
            have c5 := hc 5 _ rfl
            have c6 := hc 6 _ rfl
            have c7 := hc 7 _ rfl
            dsimp only [Nat.add_zero] at c0 c1 c2 c3 c4 c5 c6 c7
            rw [show pmB (⟨Aa, na, ca, Al, nl, cl, res, rd, f1, f2, f3, Ac, nc, cc⟩ : Pm) = (decide (na ≤ 20) && (decide (nl ≤ 20) && decide (nc ≤ 250))) from rfl] at hst hal
            have HST := Lib.hid (And.intro hst (And.intro hal hlt))
            have HBR := Lib.hid hBr
            clear hst hal hc Bk hBr hkp hall hlt
            by_cases k1 : na ≤ 20
            · have q11 : decide ((20 : Int) < (na : Int)) = false := by rw [decide_eq_false_iff_not]; omega
              by_cases k2 : nl ≤ 20
              · have q12 : decide ((20 : Int) < (nl : Int)) = false := by rw [decide_eq_false_iff_not]; omega
                by_cases k3 : nc ≤ 250
                · have q13 : decide ((250 : Int) < (nc : Int)) = false := by rw [decide_eq_false_iff_not]; omega
                  have e2 : (ps.take (k + 1)).all pmB = true := by rw [HST.out.1, decide_eq_true k1, decide_eq_true k2, decide_eq_true k3]; rfl
                  have HE := Lib.hid e2
                  clear e2
                  go_wp2_with fail
                  go_roundw
                  case rel => exact ⟨k + 1, by have := HST.out.2.2; omega, by go_num, HE.out, (HBR.out.alloc HBR.out.size _)⟩
                  case measure => have := HST.out.2.2; first | (simp [intOf]; done) | (simp [intOf]; omega)
                · have q13 : decide ((250 : Int) < (nc : Int)) = true := by rw [decide_eq_true_iff]; omega
                  have e2 := HST.out.2.1 (by rw [decide_eq_true k1, decide_eq_true k2, decide_eq_false k3]; rfl)
                  have HE := Lib.hid e2
                  clear e2
                  go_wp2_with fail
                  go_ret
                  exact ⟨by rw [HE.out]; rfl, below_next HB.out.2.1 (HBR.out.alloc HBR.out.size _)⟩
              · have q12 : decide ((20 : Int) < (nl : Int)) = true := by rw [decide_eq_true_iff]; omega
                have e2 := HST.out.2.1 (by rw [decide_eq_true k1, decide_eq_false k2]; rfl)
                have HE := Lib.hid e2
                clear e2
                go_wp2_with fail
                go_ret
                exact ⟨by rw [HE.out]; rfl, below_next HB.out.2.1 (HBR.out.alloc HBR.out.size _)⟩
            · have q11 : decide ((20 : Int) < (na : Int)) = true := by rw [decide_eq_true_iff]; omega
              have e2 := HST.out.2.1 (by rw [decide_eq_false k1]; rfl)
              have HE := Lib.hid e2
              clear e2
              go_wp2_with fail
              go_ret
              exact ⟨by rw [HE.out]; rfl, below_next HB.out.2.1 (HBR.out.alloc HBR.out.size _)⟩
          · obtain rfl : k = nm := by omega
            have e2 : ps.all pmB = true := by rw [List.take_of_length_le (by rw [HB.out.2.2.1]; omega)] at hall; exact hall
            have HE := Lib.hid e2
            have HBR := Lib.hid hBr
            clear e2 hall hBr
            go_wp2_with fail
            go_ret
            exact ⟨by rw [HE.out]; rfl, below_next HB.out.2.1 HBR.out⟩
      · have eg : greatB ng np nm ps = false := by unfold greatB; rw [decide_eq_true h1, decide_eq_true h2, decide_eq_false h3]; rfl
        rw [eg]
        have q1 : decide ((10 : Int) < (ng : Int)) = false := by rw [decide_eq_false_iff_not]; omega
        have q2 : decide ((40 : Int) < (np : Int)) = false := by rw [decide_eq_false_iff_not]; omega
        have q3 : decide ((20 : Int) < (nm : Int)) = true := by rw [decide_eq_true_iff]; omega
        have HX := HB.out.2.1
        clear eg h1 h2 h3
        go_enter Try.func7, Try.ntmps7
        go_wp2_with fail
        rw [HW.out.1, HW.out.2]
        go_wp2_with fail
        go_ret
        first | exact ⟨rfl, HB.out.2.1⟩ | exact ⟨rfl, by rw [← HW.out.2]; exact HB.out.2.1⟩ | exact ⟨rfl, by first | (rw [HW.out.1]; exact HB.out.2.1) | (rw [← HW.out.2, HW.out.1]; exact HB.out.2.1)⟩
    · have eg : greatB ng np nm ps = false := by unfold greatB; rw [decide_eq_true h1, decide_eq_false h2]; rfl
      rw [eg]
      have q1 : decide ((10 : Int) < (ng : Int)) = false := by rw [decide_eq_false_iff_not]; omega
      have q2 : decide ((40 : Int) < (np : Int)) = true := by rw [decide_eq_true_iff]; omega
      clear eg h1 h2
      go_enter Try.func7, Try.ntmps7
      go_wp2_with fail
      rw [HW.out.1, HW.out.2]
      go_wp2_with fail
      go_ret
      first | exact ⟨rfl, HB.out.2.1⟩ | exact ⟨rfl, by rw [← HW.out.2]; exact HB.out.2.1⟩ | exact ⟨rfl, by first | (rw [HW.out.1]; exact HB.out.2.1) | (rw [← HW.out.2, HW.out.1]; exact HB.out.2.1)⟩
  · have eg : greatB ng np nm ps = false := by unfold greatB; rw [decide_eq_false h1]; rfl
    rw [eg]
    have q1 : decide ((10 : Int) < (ng : Int)) = true := by rw [decide_eq_true_iff]; omega
    clear eg h1
    go_enter Try.func7, Try.ntmps7
    go_wp2_with fail
    rw [HW.out.1, HW.out.2]
    go_wp2_with fail
    go_ret
    first | exact ⟨rfl, HB.out.2.1⟩ | exact ⟨rfl, by rw [← HW.out.2]; exact HB.out.2.1⟩ | exact ⟨rfl, by first | (rw [HW.out.1]; exact HB.out.2.1) | (rw [← HW.out.2, HW.out.1]; exact HB.out.2.1)⟩
end
#print axioms PmsAt
#print axioms great_any
end Go.Proofs.Ytkhgpeejmbfmjaa
/- A region that calls Run, whatever order it draws. -/
namespace Go.Proofs.Ytkhgpeejmbfmjaa
open Go.RowKit
set_option linter.unusedSimpArgs false
set_option linter.unusedVariables false
set_option maxRecDepth 100000
section
variable {w0 W : World} {X : Sx} {rb : Nat} {fgs : List Nat} {c : Nat} {s : Mc} {K : Nat → Prop} {fg : Nat}

abbrev Rr := List V × (Int × V) × (Int × Int × Int) × Int
def oagg (o : Int × V) : Value := .agg #[.int .i64 o.1, .int .u8 o.2.1, .int .i64 o.2.2.1, .int .i64 o.2.2.2]
def cagg (c : Int × Int × Int) : Value := .agg #[.int .i64 c.1, .int .i64 c.2.1, .int .i64 c.2.2]
def ocs (o : Int × V) : List Value := [.int .i64 o.1, .int .u8 o.2.1, .int .i64 o.2.2.1, .int .i64 o.2.2.2]
def ccs (c : Int × Int × Int) : List Value := [.int .i64 c.1, .int .i64 c.2.1, .int .i64 c.2.2]
def rtup (A : Option Addr) (k : Nat) (r : Rr) : Value := .tuple #[.slice A r.1.length k, oagg r.2.1, cagg r.2.2.1, .int .i64 r.2.2.2]
/-- The globals that a call leaves. -/
def GlB (n : Nat) (A : Option Addr) (gs : List V) (V : World) : Prop := gs = [] ∨ ∃ g, A = some ⟨g, 0, none⟩ ∧ n ≤ g ∧ Blk V g (vcs gs) ∧ ∀ v ∈ gs, VOk v
/-- A region that calls Run and stores what it comes to, whatever order it draws: what lies where, of the operations that have come up. lc: the call; lm: its result moved; l0 .. l3: the parts; la, lb: the two allocs; ls, lt: the two stores; lu, lv: the two assignments. -/
structure RJ (w0 : World) (r : Rr) (lc lm l0 l1 l2 l3 la lb ls lt lu lv : Bool) (A : Option Addr) (k g1 g2 : Nat) (x0 x1 x2 x3 y0 y1 y2 : Value) (vc vm v0 v1 v2 v3 va vb vu vv : Value) (V : World) : Prop where
  b : Below w0.heap.size w0 V
  c : lc = true → vc = rtup A k r ∧ GlB w0.heap.size A r.1 V ∧ (la = true → r.1 ≠ [] → A ≠ some ⟨g1, 0, none⟩) ∧ (lb = true → r.1 ≠ [] → A ≠ some ⟨g2, 0, none⟩)
  m : lm = true → lc = true ∧ vm = rtup A k r
  e0 : l0 = true → lm = true ∧ v0 = .slice A r.1.length k
  e1 : l1 = true → v1 = oagg r.2.1
  e2 : l2 = true → v2 = cagg r.2.2.1
  e3 : l3 = true → v3 = .int .i64 r.2.2.2
  a : la = true → va = .pointer (some ⟨g1, 0, none⟩) ∧ w0.heap.size ≤ g1 ∧ Blk V g1 [x0, x1, x2, x3] ∧ (lb = true → g1 ≠ g2)
  bb : lb = true → vb = .pointer (some ⟨g2, 0, none⟩) ∧ w0.heap.size ≤ g2 ∧ Blk V g2 [y0, y1, y2]
  s : ls = true → lc = true ∧ la = true ∧ [x0, x1, x2, x3] = ocs r.2.1
  t : lt = true → lc = true ∧ lb = true ∧ [y0, y1, y2] = ccs r.2.2.1
  u : lu = true → l0 = true ∧ vu = .slice A r.1.length k
  v : lv = true → vv = .int .i64 r.2.2.2

theorem GlB.below {n : Nat} {A : Option Addr} {gs : List V} {V V' : World} (h : GlB n A gs V) (hb : Below V.heap.size V V') : GlB n A gs V' := by
  rcases h with h | ⟨g, h1, h2, h3, h4⟩
  · exact .inl h
  · exact .inr ⟨g, h1, h2, h3.below hb, h4⟩
theorem GlB.other {n : Nat} {A : Option Addr} {gs : List V} {V : World} (h : GlB n A gs V) {x : Nat} (hx : gs ≠ [] → A ≠ some ⟨x, 0, none⟩) (j : Nat) (v : Value) : GlB n A gs (V.setCell ⟨x, j, none⟩ v) := by
  rcases h with h | ⟨g, h1, h2, h3, h4⟩
  · exact .inl h
  · by_cases hg : gs = []
    · exact .inl hg
    · exact .inr ⟨g, h1, h2, h3.other (fun e => hx hg (by rw [h1, e])) j v, h4⟩
theorem GlB.new {n : Nat} {A : Option Addr} {gs : List V} {V : World} (h : GlB n A gs V) (hg : gs ≠ []) : A ≠ some ⟨V.heap.size, 0, none⟩ := by
  rcases h with h | ⟨g, h1, h2, h3, -⟩
  · exact absurd h hg
  · intro e
    rw [h1] at e
    injection e with e
    injection e with e
    have := h3.l
    omega
section
variable {w0 V V' : World} {r : Rr} {lc lm l0 l1 l2 l3 la lb ls lt lu lv : Bool} {A A' : Option Addr} {k k' g1 g2 : Nat} {x0 x1 x2 x3 y0 y1 y2 : Value} {vc vm v0 v1 v2 v3 va vb vu vv : Value}
theorem RJ.pre (h : RJ w0 r lc lm l0 l1 l2 l3 la lb ls lt lu lv A k g1 g2 x0 x1 x2 x3 y0 y1 y2 vc vm v0 v1 v2 v3 va vb vu vv V) (hb : Below V.heap.size V V') : RJ w0 r lc lm l0 l1 l2 l3 la lb ls lt lu lv A k g1 g2 x0 x1 x2 x3 y0 y1 y2 vc vm v0 v1 v2 v3 va vb vu vv V' :=
  { h with
    b := below_next h.b hb
    c := fun e => ⟨(h.c e).1, (h.c e).2.1.below hb, (h.c e).2.2⟩
    a := fun e => ⟨(h.a e).1, (h.a e).2.1, (h.a e).2.2.1.below hb, (h.a e).2.2.2⟩
    bb := fun e => ⟨(h.bb e).1, (h.bb e).2.1, (h.bb e).2.2.below hb⟩ }
theorem RJ.call (h : RJ w0 r false lm l0 l1 l2 l3 la lb ls lt lu lv A k g1 g2 x0 x1 x2 x3 y0 y1 y2 vc vm v0 v1 v2 v3 va vb vu vv V) (hb : Below V.heap.size V V') (hg : GlB V.heap.size A' r.1 V') :
    RJ w0 r true lm l0 l1 l2 l3 la lb ls lt lu lv A' k' g1 g2 x0 x1 x2 x3 y0 y1 y2 (rtup A' k' r) vm v0 v1 v2 v3 va vb vu vv V' := by
  have hp := h.pre hb
  have hm : lm = true → False := fun e => Bool.noConfusion (h.m e).1
  have ho : ∀ x, x < V.heap.size → r.1 ≠ [] → A' ≠ some ⟨x, 0, none⟩ := by
    intro x hx hne e
    rcases hg with hg | ⟨g, e1, e2, -, -⟩
    · exact hne hg
    · rw [e1] at e
      injection e with e
      injection e with e
      omega
  have hg0 : GlB w0.heap.size A' r.1 V' := by
    rcases hg with hg | ⟨g, e1, e2, e3⟩
    · exact .inl hg
    · exact .inr ⟨g, e1, Nat.le_trans h.b.size e2, e3⟩
  exact { hp with
    c := fun _ => ⟨rfl, hg0, fun e => ho _ (h.a e).2.2.1.l, fun e => ho _ (h.bb e).2.2.l⟩
    m := fun e => (hm e).elim
    e0 := fun e => (hm (h.e0 e).1).elim
    s := fun e => ⟨rfl, (hp.s e).2⟩
    t := fun e => ⟨rfl, (hp.t e).2⟩
    u := fun e => (hm (h.e0 (h.u e).1).1).elim }
theorem RJ.mv (h : RJ w0 r true lm l0 l1 l2 l3 la lb ls lt lu lv A k g1 g2 x0 x1 x2 x3 y0 y1 y2 vc vm v0 v1 v2 v3 va vb vu vv V) : RJ w0 r true true l0 l1 l2 l3 la lb ls lt lu lv A k g1 g2 x0 x1 x2 x3 y0 y1 y2 vc (rtup A k r) v0 v1 v2 v3 va vb vu vv V :=
  { h with m := fun _ => ⟨rfl, rfl⟩, e0 := fun e => ⟨rfl, (h.e0 e).2⟩ }
theorem RJ.part0 (h : RJ w0 r lc true l0 l1 l2 l3 la lb ls lt lu lv A k g1 g2 x0 x1 x2 x3 y0 y1 y2 vc vm v0 v1 v2 v3 va vb vu vv V) : RJ w0 r lc true true l1 l2 l3 la lb ls lt lu lv A k g1 g2 x0 x1 x2 x3 y0 y1 y2 vc vm (.slice A r.1.length k) v1 v2 v3 va vb vu vv V :=
  { h with e0 := fun _ => ⟨rfl, rfl⟩, u := fun e => ⟨rfl, (h.u e).2⟩ }
theorem RJ.part1 (h : RJ w0 r lc lm l0 l1 l2 l3 la lb ls lt lu lv A k g1 g2 x0 x1 x2 x3 y0 y1 y2 vc vm v0 v1 v2 v3 va vb vu vv V) : RJ w0 r lc lm l0 true l2 l3 la lb ls lt lu lv A k g1 g2 x0 x1 x2 x3 y0 y1 y2 vc vm v0 (oagg r.2.1) v2 v3 va vb vu vv V :=
  { h with e1 := fun _ => rfl }
theorem RJ.part2 (h : RJ w0 r lc lm l0 l1 l2 l3 la lb ls lt lu lv A k g1 g2 x0 x1 x2 x3 y0 y1 y2 vc vm v0 v1 v2 v3 va vb vu vv V) : RJ w0 r lc lm l0 l1 true l3 la lb ls lt lu lv A k g1 g2 x0 x1 x2 x3 y0 y1 y2 vc vm v0 v1 (cagg r.2.2.1) v3 va vb vu vv V :=
  { h with e2 := fun _ => rfl }
theorem RJ.part3 (h : RJ w0 r lc lm l0 l1 l2 l3 la lb ls lt lu lv A k g1 g2 x0 x1 x2 x3 y0 y1 y2 vc vm v0 v1 v2 v3 va vb vu vv V) : RJ w0 r lc lm l0 l1 l2 true la lb ls lt lu lv A k g1 g2 x0 x1 x2 x3 y0 y1 y2 vc vm v0 v1 v2 (.int .i64 r.2.2.2) va vb vu vv V :=
  { h with e3 := fun _ => rfl }
theorem RJ.al1 (h : RJ w0 r lc lm l0 l1 l2 l3 false lb ls lt lu lv A k g1 g2 x0 x1 x2 x3 y0 y1 y2 vc vm v0 v1 v2 v3 va vb vu vv V) (z0 z1 z2 z3 : Value) (T : TypeId) :
    RJ w0 r lc lm l0 l1 l2 l3 true lb ls lt lu lv A k V.heap.size g2 z0 z1 z2 z3 y0 y1 y2 vc vm v0 v1 v2 v3 (.pointer (some ⟨V.heap.size, 0, none⟩)) vb vu vv (V.alloc (.cells #[z0, z1, z2, z3] T)) := by
  have hp := h.pre ((Below.refl V.heap.size V).alloc (Nat.le_refl _) (.cells #[z0, z1, z2, z3] T))
  exact { hp with
    c := fun e => ⟨(hp.c e).1, (hp.c e).2.1, fun _ hg => (h.c e).2.1.new hg, (hp.c e).2.2.2⟩
    a := fun _ => ⟨rfl, h.b.size, Blk.new _ _ _, fun e => by have := (h.bb e).2.2.l; omega⟩
    s := fun e => Bool.noConfusion (h.s e).2.1 }
theorem RJ.al2 (h : RJ w0 r lc lm l0 l1 l2 l3 la false ls lt lu lv A k g1 g2 x0 x1 x2 x3 y0 y1 y2 vc vm v0 v1 v2 v3 va vb vu vv V) (z0 z1 z2 : Value) (T : TypeId) :
    RJ w0 r lc lm l0 l1 l2 l3 la true ls lt lu lv A k g1 V.heap.size x0 x1 x2 x3 z0 z1 z2 vc vm v0 v1 v2 v3 va (.pointer (some ⟨V.heap.size, 0, none⟩)) vu vv (V.alloc (.cells #[z0, z1, z2] T)) := by
  have hp := h.pre ((Below.refl V.heap.size V).alloc (Nat.le_refl _) (.cells #[z0, z1, z2] T))
  exact { hp with
    c := fun e => ⟨(hp.c e).1, (hp.c e).2.1, (hp.c e).2.2.1, fun _ hg => (h.c e).2.1.new hg⟩
    a := fun e => ⟨(hp.a e).1, (hp.a e).2.1, (hp.a e).2.2.1, fun _ => by have := (h.a e).2.2.1.l; omega⟩
    bb := fun _ => ⟨rfl, h.b.size, Blk.new _ _ _⟩
    t := fun e => Bool.noConfusion (h.t e).2.1 }
theorem RJ.as1 (h : RJ w0 r lc lm true l1 l2 l3 la lb ls lt lu lv A k g1 g2 x0 x1 x2 x3 y0 y1 y2 vc vm v0 v1 v2 v3 va vb vu vv V) : RJ w0 r lc lm true l1 l2 l3 la lb ls lt true lv A k g1 g2 x0 x1 x2 x3 y0 y1 y2 vc vm v0 v1 v2 v3 va vb (.slice A r.1.length k) vv V :=
  { h with u := fun _ => ⟨rfl, rfl⟩ }
theorem RJ.as2 (h : RJ w0 r lc lm l0 l1 l2 l3 la lb ls lt lu lv A k g1 g2 x0 x1 x2 x3 y0 y1 y2 vc vm v0 v1 v2 v3 va vb vu vv V) : RJ w0 r lc lm l0 l1 l2 l3 la lb ls lt lu true A k g1 g2 x0 x1 x2 x3 y0 y1 y2 vc vm v0 v1 v2 v3 va vb vu (.int .i64 r.2.2.2) V :=
  { h with v := fun _ => rfl }
theorem RJ.st1 (h : RJ w0 r true lm l0 l1 l2 l3 true lb ls lt lu lv A k g1 g2 x0 x1 x2 x3 y0 y1 y2 vc vm v0 v1 v2 v3 va vb vu vv V) :
    RJ w0 r true lm l0 l1 l2 l3 true lb true lt lu lv A k g1 g2 (.int .i64 r.2.1.1) (.int .u8 r.2.1.2.1) (.int .i64 r.2.1.2.2.1) (.int .i64 r.2.1.2.2.2) y0 y1 y2 vc vm v0 v1 v2 v3 va vb vu vv
      ((((V.setCell ⟨g1, 0, none⟩ (.int .i64 r.2.1.1)).setCell ⟨g1, 1, none⟩ (.int .u8 r.2.1.2.1)).setCell ⟨g1, 2, none⟩ (.int .i64 r.2.1.2.2.1)).setCell ⟨g1, 3, none⟩ (.int .i64 r.2.1.2.2.2)) := by
  obtain ⟨c1, c2, c3, c4⟩ := h.c rfl
  obtain ⟨a1, a2, a3, a4⟩ := h.a rfl
  have hx := c3 rfl
  exact { h with
    b := Blk.below_set (Blk.below_set (Blk.below_set (Blk.below_set h.b a2 _ _) a2 _ _) a2 _ _) a2 _ _
    c := fun _ => ⟨c1, (((c2.other hx _ _).other hx _ _).other hx _ _).other hx _ _, c3, c4⟩
    a := fun _ => ⟨a1, a2, (((a3.set (j := 0) rfl _).set (j := 1) rfl _).set (j := 2) rfl _).set (j := 3) rfl _, a4⟩
    bb := fun e => ⟨(h.bb e).1, (h.bb e).2.1, ((((h.bb e).2.2.other (a4 e) _ _).other (a4 e) _ _).other (a4 e) _ _).other (a4 e) _ _⟩
    s := fun _ => ⟨rfl, rfl, rfl⟩ }
theorem RJ.st2 (h : RJ w0 r true lm l0 l1 l2 l3 la true ls lt lu lv A k g1 g2 x0 x1 x2 x3 y0 y1 y2 vc vm v0 v1 v2 v3 va vb vu vv V) :
    RJ w0 r true lm l0 l1 l2 l3 la true ls true lu lv A k g1 g2 x0 x1 x2 x3 (.int .i64 r.2.2.1.1) (.int .i64 r.2.2.1.2.1) (.int .i64 r.2.2.1.2.2) vc vm v0 v1 v2 v3 va vb vu vv
      (((V.setCell ⟨g2, 0, none⟩ (.int .i64 r.2.2.1.1)).setCell ⟨g2, 1, none⟩ (.int .i64 r.2.2.1.2.1)).setCell ⟨g2, 2, none⟩ (.int .i64 r.2.2.1.2.2)) := by
  obtain ⟨c1, c2, c3, c4⟩ := h.c rfl
  obtain ⟨a1, a2, a3⟩ := h.bb rfl
  have hx := c4 rfl
  exact { h with
    b := Blk.below_set (Blk.below_set (Blk.below_set h.b a2 _ _) a2 _ _) a2 _ _
    c := fun _ => ⟨c1, ((c2.other hx _ _).other hx _ _).other hx _ _, c3, c4⟩
    a := fun e => by
      have h4 := (h.a e).2.2.2 rfl
      exact ⟨(h.a e).1, (h.a e).2.1, (((h.a e).2.2.1.other (fun z => h4 z.symm) _ _).other (fun z => h4 z.symm) _ _).other (fun z => h4 z.symm) _ _, (h.a e).2.2.2⟩
    bb := fun _ => ⟨a1, a2, ((a3.set (j := 0) rfl _).set (j := 1) rfl _).set (j := 2) rfl _⟩
    t := fun _ => ⟨rfl, rfl, rfl⟩ }
theorem RJ.call' (h : RJ w0 r lc lm l0 l1 l2 l3 la lb ls lt lu lv A k g1 g2 x0 x1 x2 x3 y0 y1 y2 vc vm v0 v1 v2 v3 va vb vu vv V) (hc : lc = false) (hb : Below V.heap.size V V') (hg : GlB V.heap.size A' r.1 V') :
    RJ w0 r true lm l0 l1 l2 l3 la lb ls lt lu lv A' k' g1 g2 x0 x1 x2 x3 y0 y1 y2 (rtup A' k' r) vm v0 v1 v2 v3 va vb vu vv V' := by subst hc; exact h.call hb hg
theorem RJ.mv' (h : RJ w0 r lc lm l0 l1 l2 l3 la lb ls lt lu lv A k g1 g2 x0 x1 x2 x3 y0 y1 y2 vc vm v0 v1 v2 v3 va vb vu vv V) (hc : lc = true) : RJ w0 r lc true l0 l1 l2 l3 la lb ls lt lu lv A k g1 g2 x0 x1 x2 x3 y0 y1 y2 vc (rtup A k r) v0 v1 v2 v3 va vb vu vv V := by subst hc; exact h.mv
theorem RJ.part0' (h : RJ w0 r lc lm l0 l1 l2 l3 la lb ls lt lu lv A k g1 g2 x0 x1 x2 x3 y0 y1 y2 vc vm v0 v1 v2 v3 va vb vu vv V) (hc : lm = true) : RJ w0 r lc lm true l1 l2 l3 la lb ls lt lu lv A k g1 g2 x0 x1 x2 x3 y0 y1 y2 vc vm (.slice A r.1.length k) v1 v2 v3 va vb vu vv V := by subst hc; exact h.part0
theorem RJ.al1' (h : RJ w0 r lc lm l0 l1 l2 l3 la lb ls lt lu lv A k g1 g2 x0 x1 x2 x3 y0 y1 y2 vc vm v0 v1 v2 v3 va vb vu vv V) (hc : la = false) (z0 z1 z2 z3 : Value) (T : TypeId) :
    RJ w0 r lc lm l0 l1 l2 l3 true lb ls lt lu lv A k V.heap.size g2 z0 z1 z2 z3 y0 y1 y2 vc vm v0 v1 v2 v3 (.pointer (some ⟨V.heap.size, 0, none⟩)) vb vu vv (V.alloc (.cells #[z0, z1, z2, z3] T)) := by subst hc; exact h.al1 z0 z1 z2 z3 T
theorem RJ.al2' (h : RJ w0 r lc lm l0 l1 l2 l3 la lb ls lt lu lv A k g1 g2 x0 x1 x2 x3 y0 y1 y2 vc vm v0 v1 v2 v3 va vb vu vv V) (hc : lb = false) (z0 z1 z2 : Value) (T : TypeId) :
    RJ w0 r lc lm l0 l1 l2 l3 la true ls lt lu lv A k g1 V.heap.size x0 x1 x2 x3 z0 z1 z2 vc vm v0 v1 v2 v3 va (.pointer (some ⟨V.heap.size, 0, none⟩)) vu vv (V.alloc (.cells #[z0, z1, z2] T)) := by subst hc; exact h.al2 z0 z1 z2 T
theorem RJ.as1' (h : RJ w0 r lc lm l0 l1 l2 l3 la lb ls lt lu lv A k g1 g2 x0 x1 x2 x3 y0 y1 y2 vc vm v0 v1 v2 v3 va vb vu vv V) (hc : l0 = true) : RJ w0 r lc lm l0 l1 l2 l3 la lb ls lt true lv A k g1 g2 x0 x1 x2 x3 y0 y1 y2 vc vm v0 v1 v2 v3 va vb (.slice A r.1.length k) vv V := by subst hc; exact h.as1
theorem RJ.st1' (h : RJ w0 r lc lm l0 l1 l2 l3 la lb ls lt lu lv A k g1 g2 x0 x1 x2 x3 y0 y1 y2 vc vm v0 v1 v2 v3 va vb vu vv V) (hc : lc = true) (ha : la = true) :
    RJ w0 r lc lm l0 l1 l2 l3 la lb true lt lu lv A k g1 g2 (.int .i64 r.2.1.1) (.int .u8 r.2.1.2.1) (.int .i64 r.2.1.2.2.1) (.int .i64 r.2.1.2.2.2) y0 y1 y2 vc vm v0 v1 v2 v3 va vb vu vv
      ((((V.setCell ⟨g1, 0, none⟩ (.int .i64 r.2.1.1)).setCell ⟨g1, 1, none⟩ (.int .u8 r.2.1.2.1)).setCell ⟨g1, 2, none⟩ (.int .i64 r.2.1.2.2.1)).setCell ⟨g1, 3, none⟩ (.int .i64 r.2.1.2.2.2)) := by subst hc ha; exact h.st1
theorem RJ.st2' (h : RJ w0 r lc lm l0 l1 l2 l3 la lb ls lt lu lv A k g1 g2 x0 x1 x2 x3 y0 y1 y2 vc vm v0 v1 v2 v3 va vb vu vv V) (hc : lc = true) (ha : lb = true) :
    RJ w0 r lc lm l0 l1 l2 l3 la lb ls true lu lv A k g1 g2 x0 x1 x2 x3 (.int .i64 r.2.2.1.1) (.int .i64 r.2.2.1.2.1) (.int .i64 r.2.2.1.2.2) vc vm v0 v1 v2 v3 va vb vu vv
      (((V.setCell ⟨g2, 0, none⟩ (.int .i64 r.2.2.1.1)).setCell ⟨g2, 1, none⟩ (.int .i64 r.2.2.1.2.1)).setCell ⟨g2, 2, none⟩ (.int .i64 r.2.2.1.2.2)) := by subst hc ha; exact h.st2
/-- What the region's first operations leave in awake: the module, a number, a slice of it, the limits. -/
def PJ (md : Value) (b0 b1 b2 b3 b4 : Bool) (p0 p1 p2 p3 : Value) (V : World) : Prop :=
  (b0 = true → p0 = md) ∧ (b1 = true → p1 = .agg #[.int .u8 1, .int .i64 5, .int .i64 0]) ∧ (b2 = true → b4 = false → ∃ g, p2 = .slice (some ⟨g, 0, none⟩) 1 1 ∧ Blk V g [.int .u8 1, .int .i64 5, .int .i64 0]) ∧ (b3 = true → p3 = .agg #[.int .i64 20000, .int .i64 256, .int .i64 1024])
theorem PJ.pre {md : Value} {b0 b1 b2 b3 b4 : Bool} {p0 p1 p2 p3 : Value} (h : PJ md b0 b1 b2 b3 b4 p0 p1 p2 p3 V) (hb : Below V.heap.size V V') : PJ md b0 b1 b2 b3 b4 p0 p1 p2 p3 V' :=
  ⟨h.1, h.2.1, fun a b => let ⟨g, e, x⟩ := h.2.2.1 a b; ⟨g, e, x.below hb⟩, h.2.2.2⟩
theorem PJ.any {md : Value} {b0 b1 b2 b3 b4 : Bool} {p0 p1 p2 p3 : Value} (h : PJ md b0 b1 b2 b3 b4 p0 p1 p2 p3 V) (hb : b4 = true) (V' : World) : PJ md b0 b1 b2 b3 b4 p0 p1 p2 p3 V' :=
  ⟨h.1, h.2.1, (fun _ b => (by rw [hb] at b; cases b)), h.2.2.2⟩
end
end
#print axioms RJ
#print axioms PJ
#print axioms PJ
end Go.Proofs.Ytkhgpeejmbfmjaa
/- What a region leaves that calls Run. -/
namespace Go.Proofs.Ytkhgpeejmbfmjaa
open Go.RowKit
set_option linter.unusedSimpArgs false
set_option linter.unusedVariables false
set_option maxRecDepth 100000
section
variable {w0 W : World} {X : Sx} {rb : Nat} {fgs : List Nat} {c : Nat} {s : Mc} {K : Nat → Prop} {fg : Nat}

/-- What a region leaves that calls Run and stores what it comes to. -/
def RC (w0 : World) (r : Rr) (s9 s10 s11 s12 : Value) (V : World) : Prop :=
  ∃ A k g1 g2, s9 = .slice A r.1.length k ∧ s10 = .pointer (some ⟨g1, 0, none⟩) ∧ s11 = .pointer (some ⟨g2, 0, none⟩) ∧ s12 = .int .i64 r.2.2.2 ∧ Below w0.heap.size w0 V ∧
    GlB w0.heap.size A r.1 V ∧ Blk V g1 (ocs r.2.1) ∧ Blk V g2 (ccs r.2.2.1) ∧ w0.heap.size ≤ g1 ∧ w0.heap.size ≤ g2 ∧ g1 ≠ g2 ∧ (r.1 ≠ [] → A ≠ some ⟨g2, 0, none⟩)
theorem RJ.fin {w0 V : World} {r : Rr} {A : Option Addr} {k g1 g2 : Nat} {x0 x1 x2 x3 y0 y1 y2 : Value} {vc vm v0 v1 v2 v3 va vb vu vv : Value} {lc lm l0 l1 l2 l3 la lb ls lt lu lv : Bool}
    (h : RJ w0 r lc lm l0 l1 l2 l3 la lb ls lt lu lv A k g1 g2 x0 x1 x2 x3 y0 y1 y2 vc vm v0 v1 v2 v3 va vb vu vv V) (ec : lc = true) (ea : la = true) (eb : lb = true) (es : ls = true) (et : lt = true) (eu : lu = true) (ev : lv = true) : RC w0 r vu va vb vv V := by
  obtain ⟨-, c2, -, c4⟩ := h.c ec
  obtain ⟨a1, a2, a3, a4⟩ := h.a ea
  obtain ⟨b1, b2, b3⟩ := h.bb eb
  obtain ⟨-, -, s3⟩ := h.s es
  obtain ⟨-, -, t3⟩ := h.t et
  rw [s3] at a3
  rw [t3] at b3
  exact ⟨A, k, g1, g2, (h.u eu).2, a1, b1, h.v ev, h.b, c2, a3, b3, a2, b2, a4 eb, c4 eb⟩
theorem RJ.none (w0 : World) (r : Rr) (A : Option Addr) (k g1 g2 : Nat) (x0 x1 x2 x3 y0 y1 y2 vc vm v0 v1 v2 v3 va vb vu vv : Value) : RJ w0 r false false false false false false false false false false false false A k g1 g2 x0 x1 x2 x3 y0 y1 y2 vc vm v0 v1 v2 v3 va vb vu vv w0.drew :=
  ⟨Below.refl _ _ |>.drew, nofun, nofun, nofun, nofun, nofun, nofun, nofun, nofun, nofun, nofun, nofun, nofun⟩
/-- What a region's first operations read: five values. -/
structure PA (c0 c1 c2 c3 c4 : Value) (b0 b1 b2 b3 b4 : Bool) (p0 p1 p2 p3 p4 : Value) : Prop where
  q0 : b0 = true → p0 = c0
  q1 : b1 = true → p1 = c1
  q2 : b2 = true → p2 = c2
  q3 : b3 = true → p3 = c3
  q4 : b4 = true → p4 = c4
/-- What a call of Run comes to, as a region needs it. -/
def RunTo (W : World) (r : Rr) (e : Ending) (W' : World) : Prop := ∃ A k, e = .returned (rtup A k r) ∧ Below W.heap.size W W' ∧ GlB W.heap.size A r.1 W'
theorem RunEnd.to {W W' : World} {r : Rr} {e : Ending} (h : RunEnd W r e W') : RunTo W r e W' := by
  obtain ⟨A, c, e1, hb, hg, hv⟩ := h
  refine ⟨A, c, e1, hb, ?_⟩
  rcases hg with hg | ⟨g, h1, h2, h3⟩
  · exact .inl hg
  · exact .inr ⟨g, h1, h2, h3, hv⟩
theorem GlB.vs {n : Nat} {A : Option Addr} {gs : List V} {V : World} (h : GlB n A gs V) : VsAt V A gs.length gs := by
  rcases h with h | ⟨g, h1, h2, h3, h4⟩
  · subst h; exact ⟨rfl, fun i hi => by cases hi⟩
  · rw [h1]; exact vs_at h3 h4
theorem RC.open {w0 Vw : World} {R : List V} {o0 o1 o2 o3 u0 u1 u2 ee : Int} {s9 s10 s11 s12 : Value} (h : RC w0 (R, (o0, o1, o2, o3), (u0, u1, u2), ee) s9 s10 s11 s12 Vw) : ∃ A k g1 g2, s9 = .slice A R.length k ∧ s10 = .pointer (some ⟨g1, 0, none⟩) ∧ s11 = .pointer (some ⟨g2, 0, none⟩) ∧ s12 = .int .i64 ee ∧ Below w0.heap.size w0 Vw ∧
    GlB w0.heap.size A R Vw ∧ Blk Vw g1 [.int .i64 o0, .int .u8 o1, .int .i64 o2, .int .i64 o3] ∧ Blk Vw g2 [.int .i64 u0, .int .i64 u1, .int .i64 u2] ∧ w0.heap.size ≤ g1 ∧ w0.heap.size ≤ g2 ∧ g1 ≠ g2 ∧ (R ≠ [] → A ≠ some ⟨g2, 0, none⟩) := h
end
#print axioms RunEnd
#print axioms GlB
#print axioms RC
end Go.Proofs.Ytkhgpeejmbfmjaa
/- What the laws are handed, opened; what an outcome is. -/
namespace Go.Proofs.Ytkhgpeejmbfmjaa
open Go.RowKit
set_option linter.unusedSimpArgs false
set_option linter.unusedVariables false
set_option maxRecDepth 100000
section
variable {w0 W : World} {X : Sx} {rb : Nat} {fgs : List Nat} {c : Nat} {s : Mc} {K : Nat → Prop} {fg : Nat}
theorem cells29 : Try.prog.cellsOf 29 = 3 := by kernel_rfl
theorem cells5 : Try.prog.cellsOf 5 = 1 := by kernel_rfl
theorem cells2 : Try.prog.cellsOf 2 = 1 := by kernel_rfl
theorem cells3 : Try.prog.cellsOf 3 = 1 := by kernel_rfl
theorem cells22 : Try.prog.cellsOf 22 = 1 := by kernel_rfl
theorem cells23 : Try.prog.cellsOf 23 = 1 := by kernel_rfl
theorem cells48 : Try.prog.cellsOf 48 = 1 := by kernel_rfl
theorem cells47 : Try.prog.cellsOf 47 = 1 := by kernel_rfl
theorem cells46 : Try.prog.cellsOf 46 = 3 := by kernel_rfl
theorem cells50 : Try.prog.cellsOf 50 = 8 := by kernel_rfl
theorem cells4 : Try.prog.cellsOf 4 = 1 := by kernel_rfl
theorem cells25 : Try.prog.cellsOf 25 = 4 := by kernel_rfl
theorem cells33 : Try.prog.cellsOf 33 = 3 := by kernel_rfl

theorem list_of {α : Type} {P : Nat → α → Prop} : ∀ {n : Nat}, (∀ i, i < n → ∃ x, P i x) → ∃ l : List α, l.length = n ∧ ∀ i (hi : i < l.length), P i l[i]
  | 0, _ => ⟨[], rfl, fun i hi => by cases hi⟩
  | n + 1, h => by
    obtain ⟨l, h1, h2⟩ := list_of (n := n) (fun i hi => h i (by omega))
    obtain ⟨x, hx⟩ := h n (by omega)
    refine ⟨l ++ [x], by simp [h1], fun i hi => ?_⟩
    by_cases e : i < l.length
    · rw [List.getElem_append_left e]; exact h2 i e
    · have e2 : i = n := by simp [h1] at hi; omega
      subst e2
      rw [List.getElem_append_right (by omega)]
      simpa [h1] using hx
theorem val_cells {W : World} {n : Nat} {es : List Value} (hl : es.length = 3) (hd : deepOk Try.prog W (n + 2) 29 es) : ∃ v : V, VOk v ∧ es = [.int .u8 v.1, .int .i64 v.2.1, .int .i64 v.2.2] := by
  match es, hl with
  | [x, y, z], _ =>
    have d0 := deepOk_at Try.underlying29 hd 0 5 0 _ _ rfl rfl rfl cells5
    have d1 := deepOk_at Try.underlying29 hd 1 2 1 _ _ rfl rfl rfl cells2
    have d2 := deepOk_at Try.underlying29 hd 2 2 2 _ _ rfl rfl rfl cells2
    obtain ⟨a, e0, h0⟩ := deepOk_int Try.underlying5 d0
    obtain ⟨b, e1, h1⟩ := deepOk_int Try.underlying2 d1
    obtain ⟨c, e2, h2⟩ := deepOk_int Try.underlying2 d2
    injection e0 with e0
    injection e1 with e1
    injection e2 with e2
    subst e0 e1 e2
    exact ⟨(a, b, c), ⟨wf_u8 h0, wf_i64' h1, wf_i64' h2⟩, rfl⟩
theorem ins_cells {W : World} {n : Nat} {es : List Value} (hl : es.length = 3) (hd : deepOk Try.prog W (n + 2) 46 es) : ∃ (x : Int × Int) (z : Int), (0 ≤ x.1 ∧ x.1 ≤ 255) ∧ I64 x.2 ∧ es = [.int .u8 x.1, .int .i64 x.2, .int .i64 z] := by
  match es, hl with
  | [x, y, z], _ =>
    have d0 := deepOk_at Try.underlying46 hd 0 5 0 _ _ rfl rfl rfl cells5
    have d1 := deepOk_at Try.underlying46 hd 1 3 1 _ _ rfl rfl rfl cells3
    have d2 := deepOk_at Try.underlying46 hd 2 3 2 _ _ rfl rfl rfl cells3
    obtain ⟨a, e0, h0⟩ := deepOk_int Try.underlying5 d0
    obtain ⟨b, e1, h1⟩ := deepOk_int Try.underlying3 d1
    obtain ⟨c, e2, h2⟩ := deepOk_int Try.underlying3 d2
    injection e0 with e0
    injection e1 with e1
    injection e2 with e2
    subst e0 e1 e2
    exact ⟨(a, b), c, wf_u8 h0, wf_i64' h1, rfl⟩
theorem vals_open {W : World} {n : Nat} {v : Value} (h : deepOk Try.prog W (n + 3) 22 [v]) : ∃ A m c l, v = .slice A m c ∧ VsAt W A m l := by
  obtain ⟨A, m, c, hv, -, h0, hi⟩ := deepOk_slice Try.underlying22 h
  injection hv with hv
  obtain ⟨l, h1, h2⟩ := list_of (P := fun i (v : V) => ∃ g o, A = some ⟨g, o, none⟩ ∧ g < W.heap.size ∧ VOk v ∧ W.cell? ⟨g, o + i * 3, none⟩ = some (.int .u8 v.1) ∧ W.cell? ⟨g, o + i * 3 + 1, none⟩ = some (.int .i64 v.2.1) ∧ W.cell? ⟨g, o + i * 3 + 2, none⟩ = some (.int .i64 v.2.2)) (n := m) (fun i him => by
    obtain ⟨g, o, es, hA, hg, hl, hc, hd⟩ := hi (by rw [cells29]; omega) i him
    rw [cells29] at hl hc
    obtain ⟨x, hx, rfl⟩ := val_cells hl hd
    have c0 := hc 0 (by omega)
    have c1 := hc 1 (by omega)
    have c2 := hc 2 (by omega)
    rw [← Nat.add_assoc] at c0 c1 c2
    exact ⟨x, g, o, hA, hg, hx, c0, c1, c2⟩)
  exact ⟨A, m, c, l, hv, h1, h2⟩
theorem bytes_open {W : World} {n : Nat} {v : Value} (h : deepOk Try.prog W (n + 2) 48 [v]) : ∃ A m c l, v = .slice A m c ∧ BytesAt W A m l := by
  obtain ⟨A, m, c, hv, -, h0, hi⟩ := deepOk_slice Try.underlying48 h
  injection hv with hv
  obtain ⟨l, h1, h2⟩ := list_of (P := fun i (v : Int) => ∃ g o, A = some ⟨g, o, none⟩ ∧ g < W.heap.size ∧ (0 ≤ v ∧ v ≤ 255) ∧ W.cell? ⟨g, o + i, none⟩ = some (.int .u8 v)) (n := m) (fun i him => by
    obtain ⟨g, o, es, hA, hg, hl, hc, hd⟩ := hi (by rw [cells5]; omega) i him
    rw [cells5] at hl hc
    obtain ⟨z, rfl, hz⟩ := deepOk_int Try.underlying5 hd
    have c0 := hc 0 (by omega)
    rw [Nat.mul_one, Nat.add_zero] at c0
    exact ⟨z, g, o, hA, hg, wf_u8 hz, c0⟩)
  exact ⟨A, m, c, l, hv, h1, h2⟩
theorem ins_open {W : World} {n : Nat} {v : Value} (h : deepOk Try.prog W (n + 3) 47 [v]) : ∃ A m c l, v = .slice A m c ∧ InsAt W A m l := by
  obtain ⟨A, m, c, hv, -, h0, hi⟩ := deepOk_slice Try.underlying47 h
  injection hv with hv
  obtain ⟨l, h1, h2⟩ := list_of (P := fun i (v : Int × Int) => ∃ g o b, A = some ⟨g, o, none⟩ ∧ g < W.heap.size ∧ (0 ≤ v.1 ∧ v.1 ≤ 255) ∧ I64 v.2 ∧ W.cell? ⟨g, o + i * 3, none⟩ = some (.int .u8 v.1) ∧ W.cell? ⟨g, o + i * 3 + 1, none⟩ = some (.int .i64 v.2) ∧ W.cell? ⟨g, o + i * 3 + 2, none⟩ = some (.int .i64 b)) (n := m) (fun i him => by
    obtain ⟨g, o, es, hA, hg, hl, hc, hd⟩ := hi (by rw [cells46]; omega) i him
    rw [cells46] at hl hc
    obtain ⟨x, z, hx, hx2, rfl⟩ := ins_cells hl hd
    have c0 := hc 0 (by omega)
    have c1 := hc 1 (by omega)
    have c2 := hc 2 (by omega)
    rw [← Nat.add_assoc] at c0 c1 c2
    exact ⟨x, g, o, z, hA, hg, hx, hx2, c0, c1, c2⟩)
  exact ⟨A, m, c, l, hv, h1, h2⟩
/-- A method's cells, opened. -/
theorem meth_cells {W : World} {n : Nat} {es : List Value} (hl : es.length = 8) (hd : deepOk Try.prog W (n + 4) 50 es) :
    ∃ (p : Pm) (ks ls : List Int) (code : List (Int × Int)), es = pmcells p ∧ BytesAt W p.Aa p.na ks ∧ BytesAt W p.Al p.nl ls ∧ InsAt W p.Ac p.nc code ∧ (0 ≤ p.res ∧ p.res ≤ 255) := by
  match es, hl with
  | [x0, x1, x2, x3, x4, x5, x6, x7], _ =>
    have d0 := deepOk_at Try.underlying50 hd 0 48 0 _ _ rfl rfl rfl cells48
    have d1 := deepOk_at Try.underlying50 hd 1 48 1 _ _ rfl rfl rfl cells48
    have d2 := deepOk_at Try.underlying50 hd 2 5 2 _ _ rfl rfl rfl cells5
    have d3 := deepOk_at Try.underlying50 hd 3 4 3 _ _ rfl rfl rfl cells4
    have d4 := deepOk_at Try.underlying50 hd 4 3 4 _ _ rfl rfl rfl cells3
    have d5 := deepOk_at Try.underlying50 hd 5 3 5 _ _ rfl rfl rfl cells3
    have d6 := deepOk_at Try.underlying50 hd 6 3 6 _ _ rfl rfl rfl cells3
    have d7 := deepOk_at Try.underlying50 hd 7 47 7 _ _ rfl rfl rfl cells47
    obtain ⟨Aa, na, ca, ks, rfl, hk⟩ := bytes_open d0
    obtain ⟨Al, nl, cl, ls, rfl, hl⟩ := bytes_open d1
    obtain ⟨r, e2, h2⟩ := deepOk_int Try.underlying5 d2
    obtain ⟨rd, e3⟩ := deepOk_bool Try.underlying4 d3
    obtain ⟨f1, e4, -⟩ := deepOk_int Try.underlying3 d4
    obtain ⟨f2, e5, -⟩ := deepOk_int Try.underlying3 d5
    obtain ⟨f3, e6, -⟩ := deepOk_int Try.underlying3 d6
    obtain ⟨Ac, nc, cc, code, rfl, hc⟩ := ins_open d7
    injection e2 with e2
    injection e3 with e3
    injection e4 with e4
    injection e5 with e5
    injection e6 with e6
    subst e2 e3 e4 e5 e6
    exact ⟨⟨Aa, na, ca, Al, nl, cl, r, rd, f1, f2, f3, Ac, nc, cc⟩, ks, ls, code, rfl, hk, hl, hc, wf_u8 h2⟩
theorem meth_at {W : World} {g o : Nat} {p : Pm} {ks ls : List Int} {code : List (Int × Int)} (hc : ∀ j v, (pmcells p)[j]? = some v → W.cell? ⟨g, o + j, none⟩ = some v) (hk : BytesAt W p.Aa p.na ks) (hl : BytesAt W p.Al p.nl ls) (hi : InsAt W p.Ac p.nc code) (hr : 0 ≤ p.res ∧ p.res ≤ 255) (hb : pmB p = true) : MtAt W g o ⟨ks, ls, p.res, code⟩ := by
  unfold pmB at hb
  simp only [Bool.and_eq_true, decide_eq_true_eq] at hb
  exact ⟨p.Aa, p.na, p.ca, p.Al, p.nl, p.cl, p.Ac, p.nc, p.cc, p.rd, p.f1, p.f2, p.f3, hc 0 _ rfl, hc 1 _ rfl, hc 2 _ rfl, hc 3 _ rfl, hc 4 _ rfl, hc 5 _ rfl, hc 6 _ rfl, hc 7 _ rfl, hk, hl, hi, hb.1, hb.2.1, hb.2.2, hr⟩
theorem meths_open {W : World} {n : Nat} {v : Value} (h : deepOk Try.prog W (n + 5) 23 [v]) : ∃ A m c, v = .slice A m c ∧ ∃ (ps : List Pm) (mts : List Mt), PmsAt W A m ps ∧ mts.length = m ∧ (ps.all pmB = true → ∀ i (hi : i < mts.length), ∃ g o, A = some ⟨g, o, none⟩ ∧ g < W.heap.size ∧ MtAt W g (o + i * 8) mts[i]) := by
  obtain ⟨A, m, c, hv, -, h0, hi⟩ := deepOk_slice Try.underlying23 h
  injection hv with hv
  obtain ⟨l, h1, h2⟩ := list_of (P := fun i (x : Pm × Mt) => ∃ g o, A = some ⟨g, o, none⟩ ∧ g < W.heap.size ∧ (∀ j v, (pmcells x.1)[j]? = some v → W.cell? ⟨g, o + i * 8 + j, none⟩ = some v) ∧ (pmB x.1 = true → MtAt W g (o + i * 8) x.2)) (n := m) (fun i him => by
    obtain ⟨g, o, es, hA, hg, hl, hc, hd⟩ := hi (by rw [cells50]; omega) i him
    rw [cells50] at hl hc
    obtain ⟨p, ks, ls, code, rfl, hk, hls, hin, hr⟩ := meth_cells hl hd
    have hcell : ∀ j v, (pmcells p)[j]? = some v → W.cell? ⟨g, o + i * 8 + j, none⟩ = some v := by
      intro j v hj
      have hj8 : j < 8 := (List.getElem?_eq_some_iff.1 hj).1
      have := hc j hj8
      rw [← Nat.add_assoc, hj] at this
      exact this
    exact ⟨(p, ⟨ks, ls, p.res, code⟩), g, o, hA, hg, hcell, fun hb => meth_at hcell hk hls hin hr hb⟩)
  refine ⟨A, m, c, hv, l.map (·.1), l.map (·.2), ⟨by simp [h1], fun i hi => ?_⟩, by simp [h1], fun hall i hi => ?_⟩
  · have hi' : i < l.length := by simpa using hi
    obtain ⟨g, o, e, hg, hc, -⟩ := h2 i hi'
    refine ⟨g, o, e, hg, ?_⟩
    rw [List.getElem_map]
    exact hc
  · have hi' : i < l.length := by simpa using hi
    obtain ⟨g, o, e, hg, -, hm⟩ := h2 i hi'
    refine ⟨g, o, e, hg, ?_⟩
    rw [List.getElem_map]
    refine hm (List.all_eq_true.1 hall _ ?_)
    exact List.mem_map_of_mem (List.getElem_mem hi')
/-- What a law is handed, opened. -/
structure Inp (W : World) (mv : Value) (Aa : Option Addr) (na : Nat) (Ab : Option Addr) (ng : Nat) (m : Md) (vs gs : List V) : Prop where
  vg : VsAt W Ab ng gs
  run : ∀ l : Lm, ∃ (X : Sx) (Mg : Option Addr) (nmg cmg : Nat) (mgs : List V), X.l = l ∧ X.m = m ∧ modV X = mv ∧ Given W X Mg nmg cmg mgs Aa na vs Ab ng gs
theorem Inp.calls {W : World} {mv : Value} {Aa : Option Addr} {na ca : Nat} {Ab : Option Addr} {ng cb : Nat} {m : Md} {vs gs : List V} (h : Inp W mv Aa na Ab ng m vs gs) (i : Int) (l : Lm) (hl : l.fuel ≤ 20000) (V : World) (hb : Below W.heap.size W V) :
    Calls Try.prog 8 #[mv, .int .i64 i, .slice Aa na ca, .slice Ab ng cb, .agg #[.int .i64 l.fuel, .int .i64 l.stack, .int .i64 l.heap]] V fun e V' => RunTo V (runR m l i vs gs) e V' := by
  obtain ⟨X, Mg, nmg, cmg, mgs, h1, h2, h3, hG⟩ := h.run l
  subst h1 h2 h3
  exact Calls.mono (run_any (ca := ca) (cb := cb) (hG.below hb) i hl) fun e W' k => RunEnd.to k
/-- The module, opened. -/
theorem mod_open {W : World} {cs : Array Value} (hl : cs.size = Try.prog.cellsOf 25) (h : deepOk Try.prog W 8 25 cs.toList) :
    ∃ Mg nmg cmg Mp np cp Mm nm cm mi ps, cs = #[.slice Mg nmg cmg, .slice Mp np cp, .slice Mm nm cm, .int .i64 mi] ∧ PmsAt W Mm nm ps ∧
      (greatB nmg np nm ps = true → ∃ m : Md, ∀ (Aa : Option Addr) (na : Nat) (Ab : Option Addr) (ng : Nat) (vs gs : List V), VsAt W Aa na vs → VsAt W Ab ng gs → na ≤ 20 → ng ≤ 20 → Inp W (.agg cs) Aa na Ab ng m vs gs) := by
  rw [cells25] at hl
  obtain ⟨l⟩ := cs
  match l, hl with
  | [x0, x1, x2, x3], _ =>
    have d0 := deepOk_at Try.underlying25 h 0 22 0 _ _ rfl rfl rfl cells22
    have d1 := deepOk_at Try.underlying25 h 1 22 1 _ _ rfl rfl rfl cells22
    have d2 := deepOk_at Try.underlying25 h 2 23 2 _ _ rfl rfl rfl cells23
    have d3 := deepOk_at Try.underlying25 h 3 3 3 _ _ rfl rfl rfl cells3
    obtain ⟨Mg, nmg, cmg, mgs, rfl, hg⟩ := vals_open d0
    obtain ⟨Mp, np, cp, pool, rfl, hp⟩ := vals_open d1
    obtain ⟨Mm, nm, cm, rfl, ps, mts, hps, hml, hms⟩ := meths_open d2
    obtain ⟨mi, e3, -⟩ := deepOk_int Try.underlying3 d3
    injection e3 with e3
    subst e3
    refine ⟨Mg, nmg, cmg, Mp, np, cp, Mm, nm, cm, mi, ps, rfl, hps, fun hq => ?_⟩
    unfold greatB at hq
    simp only [Bool.and_eq_true, decide_eq_true_eq] at hq
    refine ⟨⟨pool, mts, mgs.map (·.1)⟩, fun Aa na Ab ng vs gs ha hb hna hng => ⟨hb, fun l => ⟨⟨⟨pool, mts, mgs.map (·.1)⟩, l, .slice Mg nmg cmg, Mp, np, cp, Mm, nm, cm, mi, 0⟩, Mg, nmg, cmg, mgs, rfl, rfl, rfl, ⟨⟨hp, hq.2.1, hml, hms hq.2.2.2, hq.2.2.1⟩, rfl, hg, rfl, ha, hb, hna, hng, by omega⟩⟩⟩⟩
theorem vals_arg {W : World} {A : Option Addr} {n c : Nat} (h : deepOk Try.prog W 8 22 [.slice A n c]) : ∃ l, VsAt W A n l := by
  obtain ⟨A', m, c', l, e, hv⟩ := vals_open (n := 5) h
  injection e with e1 e2 e3
  subst e1 e2 e3
  exact ⟨l, hv⟩
theorem lim_open {W : World} {cs : Array Value} (hl : cs.size = Try.prog.cellsOf 33) (h : deepOk Try.prog W 8 33 cs.toList) : ∃ f s u, cs = #[.int .i64 f, .int .i64 s, .int .i64 u] ∧ I64 f ∧ I64 s ∧ I64 u := by
  rw [cells33] at hl
  obtain ⟨l⟩ := cs
  match l, hl with
  | [x0, x1, x2], _ =>
    have d0 := deepOk_at Try.underlying33 h 0 3 0 _ _ rfl rfl rfl cells3
    have d1 := deepOk_at Try.underlying33 h 1 3 1 _ _ rfl rfl rfl cells3
    have d2 := deepOk_at Try.underlying33 h 2 3 2 _ _ rfl rfl rfl cells3
    obtain ⟨a, e0, h0⟩ := deepOk_int Try.underlying3 d0
    obtain ⟨b, e1, h1⟩ := deepOk_int Try.underlying3 d1
    obtain ⟨c, e2, h2⟩ := deepOk_int Try.underlying3 d2
    injection e0 with e0
    injection e1 with e1
    injection e2 with e2
    subst e0 e1 e2
    exact ⟨a, b, c, rfl, wf_i64' h0, wf_i64' h1, wf_i64' h2⟩
/-- What an outcome is, for the laws. -/
structure TrapsOk (r : Rr) (gs : List V) : Prop where
  bad : r.2.2.2 ≠ 0 → r.1 = [] ∧ r.2.1 = (0, zv) ∧ r.2.2.1 = (0, 0, 0)
  trap : r.2.2.2 = 0 → r.2.1.1 ≠ 0 → r.1 = gs ∧ r.2.1.2 = zv
  fine : r.2.2.2 = 0 → r.2.1.1 = 0 → r.1.map (·.1) = gs.map (·.1) ∧ (r.2.1.2.1 = 1 ∨ r.2.1.2.1 = 2)
theorem TrapsOk.open {R gs : List V} {o0 o1 o2 o3 u0 u1 u2 ee : Int} (h : TrapsOk (R, (o0, o1, o2, o3), (u0, u1, u2), ee) gs) : (ee ≠ 0 → R = [] ∧ o0 = 0 ∧ o1 = 0 ∧ o2 = 0 ∧ o3 = 0 ∧ u0 = 0 ∧ u1 = 0 ∧ u2 = 0) ∧ (ee = 0 → o0 ≠ 0 → R = gs ∧ o1 = 0 ∧ o2 = 0 ∧ o3 = 0) ∧ (ee = 0 → o0 = 0 → R.map (·.1) = gs.map (·.1) ∧ (o1 = 1 ∨ o1 = 2)) := by
  refine ⟨fun e => ?_, fun e e2 => ?_, h.fine⟩
  · obtain ⟨h1, h2, h3⟩ := h.bad e
    injection h2 with h2 h4
    injection h4 with h4 h5
    injection h5 with h5 h6
    injection h3 with h3 h7
    injection h7 with h7 h8
    exact ⟨h1, h2, h4, h5, h6, h3, h7, h8⟩
  · obtain ⟨h1, h2⟩ := h.trap e e2
    injection h2 with h4 h5
    injection h5 with h5 h6
    exact ⟨h1, h4, h5, h6⟩
theorem traps_ok (m : Md) (l : Lm) (i : Int) (vs gs : List V) : TrapsOk (runR m l i vs gs) gs := by
  refine ⟨runR_err, fun h0 h1 => ?_, fun h0 h1 => ?_⟩
  · obtain ⟨t, ht⟩ := runR_ok h0
    rw [ht.r] at h1 ⊢
    have h1 : t.out.1 ≠ 0 := h1
    rcases ht.oi with ⟨-, e⟩ | ⟨e, -⟩
    · exact ⟨if_pos h1, e⟩
    · exact absurd e h1
  · obtain ⟨t, ht⟩ := runR_ok h0
    rw [ht.r] at h1 ⊢
    have h1 : t.out.1 = 0 := h1
    rcases ht.oi with ⟨e, -⟩ | ⟨-, e⟩
    · exact absurd h1 e
    · refine ⟨?_, e⟩
      show (if t.out.1 ≠ 0 then gs else t.gl).map (·.1) = _
      rw [if_neg (fun z => z h1)]
      exact ht.gk
theorem RunOk.st0 {m : Md} {l : Lm} {i : Int} {vs gs : List V} {t : Mc} (h : RunOk m l i vs gs t) : 0 ≤ t.st := by
  have k := run_ok (m := m) (l := l) (l.fuel.toNat + 1) (s := begin0 m i.toNat vs gs) (by rw [show (begin0 m i.toNat vs gs).run m l (l.fuel.toNat + 1) = t from h.at_]; exact h.e)
  rw [show (begin0 m i.toNat vs gs).run m l (l.fuel.toNat + 1) = t from h.at_] at k
  exact k.2.1
/-- What a call took, for the laws. -/
theorem took_ok {m : Md} {l : Lm} {i : Int} {vs gs : List V} (h : (runR m l i vs gs).2.2.2 = 0) (hf : l.fuel ≤ 20000) : (1 ≤ (runR m l i vs gs).2.2.1.1 ∧ (runR m l i vs gs).2.2.1.1 ≤ l.fuel) ∧ (0 ≤ (runR m l i vs gs).2.2.1.2.1 ∧ (runR m l i vs gs).2.2.1.2.1 ≤ l.stack) ∧ (0 ≤ (runR m l i vs gs).2.2.1.2.2 ∧ (runR m l i vs gs).2.2.1.2.2 ≤ l.heap) ∧ limB l = true ∧
    (∀ l' : Lm, limB l' = true → (runR m l i vs gs).2.2.1.1 ≤ l'.fuel → (runR m l i vs gs).2.2.1.2.1 ≤ l'.stack → (runR m l i vs gs).2.2.1.2.2 ≤ l'.heap → runR m l' i vs gs = runR m l i vs gs) ∧
    (∀ l' : Lm, limB l' = true → l'.fuel < (runR m l i vs gs).2.2.1.1 → (runR m l i vs gs).2.2.1.2.1 ≤ l'.stack → (runR m l i vs gs).2.2.1.2.2 ≤ l'.heap → (runR m l' i vs gs).2.2.2 = 170) := by
  obtain ⟨t, ht⟩ := runR_ok h
  have hs := ht.st0
  have hr := ht.r
  have e : (runR m l i vs gs).2.2.1 = (t.fu, t.st, (t.hp.flatten.length : Int)) := by rw [hr]
  rw [e]
  exact ⟨⟨ht.f1, ht.f2⟩, ⟨hs, ht.s2⟩, ⟨Int.natCast_nonneg _, ht.u2⟩, beginB_lim ht.b, fun l' h0 h1 h2 h3 => runR_same ht h0 h1 h2 h3, fun l' h0 h1 h2 h3 => runR_less ht h0 h1 h2 h3⟩
end
#print axioms traps_ok
#print axioms RunOk
#print axioms took_ok
end Go.Proofs.Ytkhgpeejmbfmjaa
