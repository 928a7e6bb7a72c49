/- Memories: Steps, Held, Told; an access (make). -/
import Derived.Test.YthllfeogchbihacMemA
import Derived.Laws.EntriesVeiled
namespace Go.Proofs.Ythllfeogchbihac
open Go.RowKit
set_option linter.unusedSimpArgs false
set_option linter.unusedVariables false

def zs : S7 := ⟨0, 0, 0, 0, 0⟩
def zp : P7 := ⟨0, 0, 0, 0, 0⟩
def sagg (x : S7) : Value := .agg #[.int .i64 x.i, .int .i64 x.p, .int .i64 x.s, .int .u8 x.k, .int .i64 x.m, .slice none 0 0, .slice none 0 0]
def aagg (x : P7) : Value := .agg #[.int .i64 x.s, .int .u8 x.k, .int .i64 x.m, .slice none 0 0, .slice none 0 0]
def nagg (x : N7) : Value := .agg #[.int .i64 x.i, .slice none 0 0, .slice none 0 0, .slice none 0 0, .int .i64 0, .slice none 0 0, .slice x.A x.n x.c]
def Me.proc (M : Me) (p : Int) : P7 := if hasB M.pr.length p then M.pr[p.toNat]?.getD zp else zp
def Me.slot (M : Me) (p : Int) : S7 := if hasB M.sl.length p then M.sl[p.toNat]?.getD zs else zs
section
variable {W : World} {mg pg sg : Nat} {M : Me}
theorem Me.proc_no {p : Int} (h : hasB M.pr.length p = false) : M.proc p = zp := by unfold Me.proc; rw [h]; rfl
theorem Me.slot_no {p : Int} (h : hasB M.sl.length p = false) : M.slot p = zs := by unfold Me.slot; rw [h]; rfl
theorem hasB_yes {n : Nat} {p : Int} (h : hasB n p = true) : ∃ i : Nat, p = i ∧ i < n := by
  have h := of_decide_eq_true h
  obtain ⟨i, rfl⟩ := Int.eq_ofNat_of_zero_le h.1
  exact ⟨i, rfl, by omega⟩
theorem hasB_nat {n i : Nat} (h : i < n) : hasB n (i : Int) = true := decide_eq_true ⟨by omega, by omega⟩
theorem Me.proc_yes {i : Nat} (h : i < M.pr.length) : M.proc i = M.pr[i] := by
  unfold Me.proc
  rw [hasB_nat h, if_pos rfl, Int.toNat_natCast, List.getElem?_eq_getElem h, Option.getD_some]
theorem Me.slot_yes {i : Nat} (h : i < M.sl.length) : M.slot i = M.sl[i] := by
  unfold Me.slot
  rw [hasB_nat h, if_pos rfl, Int.toNat_natCast, List.getElem?_eq_getElem h, Option.getD_some]

theorem steps_at (h : MemAt W mg pg sg M) (p : Int) : Calls Try.prog 25 #[.pointer (some ⟨mg, 0, none⟩), .int .i64 p] W fun e W' => e = .returned (.int .i64 (M.proc p).st) ∧ W' = W := by
  have HP := Lib.hid (has_at h p)
  cases hb : hasB M.pr.length p with
  | false =>
    rw [Me.proc_no hb]
    rw [hb] at HP
    unfold zp
    dsimp only
    clear h hb
    go_enter Try.func25, Try.ntmps25
    go_wp2_with fail
    refine HP.out.mono ?_
    rintro e w1 ⟨rfl, rfl⟩
    go_wp2_with fail
    go_ret
    exact ⟨rfl, rfl⟩
  | true =>
    obtain ⟨i, rfl, hi⟩ := hasB_yes hb
    rw [Me.proc_yes hi]
    rw [hb] at HP
    have a6 := h.pcell hi 6 _ (by decide) rfl
    have c0 := h.bm.c 0 _ rfl
    have hl := h.bm.l
    have hpl := h.bp.l
    have h1 := h.lp
    have i1 : (i : Int) < (M.pr.length : Int) := by omega
    clear h hb
    generalize M.pr[i] = x at *
    generalize M.pr.length = n at *
    go_enter Try.func25, Try.ntmps25
    go_wp2_with fail
    refine HP.out.mono ?_
    rintro e w1 ⟨rfl, rfl⟩
    go_wp2_with fail
    go_ret
    exact ⟨rfl, rfl⟩
theorem held_at (h : MemAt W mg pg sg M) (p : Int) : Calls Try.prog 13 #[.pointer (some ⟨mg, 0, none⟩), .int .i64 p] W fun e W' => e = .returned (sagg (M.slot p)) ∧ Below W.heap.size W W' := by
  have hb0 : Below W.heap.size W (W.alloc (.cells #[.int .i64 0, .int .i64 0, .int .i64 0, .int .u8 0, .int .i64 0, .slice none 0 0, .slice none 0 0] 47)) := (Below.refl _ _).alloc (Nat.le_refl _) _
  have HP := Lib.hid (place_at (h.below hb0) p)
  have HB := Lib.hid hb0
  cases hb : hasB M.sl.length p with
  | false =>
    rw [Me.slot_no hb]
    rw [hb] at HP
    unfold zs sagg
    dsimp only
    clear h hb hb0
    go_enter Try.func13, Try.ntmps13
    go_wp2_with fail
    refine HP.out.mono ?_
    rintro e w1 ⟨rfl, rfl⟩
    go_wp2_with fail
    refine bodyPost_ret (v := .agg #[.int .i64 0, .int .i64 0, .int .i64 0, .int .u8 0, .int .i64 0, .slice none 0 0, .slice none 0 0]) (by simp [results, Try.results13, go_sem]) rfl ⟨rfl, ?_⟩
    exact (Below.refl _ _).alloc (Nat.le_refl _) _
  | true =>
    obtain ⟨i, rfl, hi⟩ := hasB_yes hb
    rw [Me.slot_yes hi]
    rw [hb] at HP
    have a0 := h.scell hi 0 _ (by decide) rfl
    rw [Nat.add_zero] at a0
    have a1 := h.scell hi 1 _ (by decide) rfl
    have a2 := h.scell hi 2 _ (by decide) rfl
    have a3 := h.scell hi 3 _ (by decide) rfl
    have a4 := h.scell hi 4 _ (by decide) rfl
    have a5 := h.scell hi 5 _ (by decide) rfl
    have a6 := h.scell hi 6 _ (by decide) rfl
    have c0 := h.bm.c 1 _ rfl
    have hl := h.bm.l
    have hpl := h.bs.l
    have h1 := h.ls
    have i1 : (i : Int) < (M.sl.length : Int) := by omega
    clear h hb hb0
    unfold sagg
    generalize M.sl[i] = x at *
    generalize M.sl.length = n at *
    go_enter Try.func13, Try.ntmps13
    go_wp2_with fail
    refine HP.out.mono ?_
    rintro e w1 ⟨rfl, rfl⟩
    go_wp2_with fail
    refine bodyPost_ret (v := .agg #[.int .i64 x.i, .int .i64 x.p, .int .i64 x.s, .int .u8 x.k, .int .i64 x.m, .slice none 0 0, .slice none 0 0]) (by simp [results, Try.results13, go_sem]) rfl ⟨rfl, ?_⟩
    exact (Below.refl _ _).alloc (Nat.le_refl _) _
theorem below_drew {n : Nat} {a w : World} (h : Below n a w) : Below n a w.drew := ⟨h.os, h.tape, h.output, h.size, h.block⟩
theorem told_at (h : MemAt W mg pg sg M) (p : Int) : Calls Try.prog 22 #[.pointer (some ⟨mg, 0, none⟩), .int .i64 p] W fun e W' => e = .returned (.tuple #[aagg (M.proc p), .int .i64 (M.proc p).pos]) ∧ Below W.heap.size W W' := by
  have hb0 : Below W.heap.size W (W.alloc (.cells #[.int .i64 0, .int .u8 0, .int .i64 0, .slice none 0 0, .slice none 0 0] 68)) := (Below.refl _ _).alloc (Nat.le_refl _) _
  have HP := Lib.hid (has_at (h.below hb0) p)
  have HB := Lib.hid hb0
  cases hb : hasB M.pr.length p with
  | false =>
    rw [Me.proc_no hb]
    rw [hb] at HP
    unfold zp aagg
    dsimp only
    clear h hb hb0
    go_enter Try.func22, Try.ntmps22
    go_wp2_with fail
    refine HP.out.mono ?_
    rintro e w1 ⟨rfl, rfl⟩
    go_wp2_with fail
    refine bodyPost_ret (v := .tuple #[.agg #[.int .i64 0, .int .u8 0, .int .i64 0, .slice none 0 0, .slice none 0 0], .int .i64 0]) (by simp [results, Try.results22, go_sem]) rfl ⟨rfl, ?_⟩
    exact (Below.refl _ _).alloc (Nat.le_refl _) _
  | true =>
    obtain ⟨i, rfl, hi⟩ := hasB_yes hb
    rw [Me.proc_yes hi]
    rw [hb] at HP
    have a0 := h.pcell hi 0 _ (by decide) rfl
    rw [Nat.add_zero] at a0
    have a1 := h.pcell hi 1 _ (by decide) rfl
    have a2 := h.pcell hi 2 _ (by decide) rfl
    have a3 := h.pcell hi 3 _ (by decide) rfl
    have a4 := h.pcell hi 4 _ (by decide) rfl
    have a5 := h.pcell hi 5 _ (by decide) rfl
    have c0 := h.bm.c 0 _ rfl
    have hl := h.bm.l
    have hpl := h.bp.l
    have h1 := h.lp
    have i1 : (i : Int) < (M.pr.length : Int) := by omega
    clear h hb hb0
    unfold aagg
    generalize M.pr[i] = x at *
    generalize M.pr.length = n at *
    go_enter Try.func22, Try.ntmps22
    go_wp2_with fail
    refine HP.out.mono ?_
    rintro e w1 ⟨rfl, rfl⟩
    go_wp2_with fail
    go_region
    go_wp2_with fail
    refine bodyPost_ret (v := .tuple #[.agg #[.int .i64 x.s, .int .u8 x.k, .int .i64 x.m, .slice none 0 0, .slice none 0 0], .int .i64 x.pos]) (by simp [results, Try.results22, go_sem]) rfl ⟨rfl, ?_⟩
    exact below_drew ((Below.refl _ _).alloc (Nat.le_refl _) _)

/-! An access. -/
theorem make_no (ptr : Option Addr) (p : Int) (names : Bool) (f : Value) {b : Bool} (hh : Calls Try.prog 47 #[.pointer ptr, .int .i64 p] W fun e W' => e = .returned (.bool b) ∧ W' = W) (hn : (b && names) = false) :
    Calls Try.prog 29 #[.pointer ptr, .int .i64 p, .bool names, f] W fun e W' => e = .returned (.bool false) ∧ W' = W := by
  have HH := Lib.hid hh
  have hnot : ∀ (x : Bool) (w : World), (Op.unary .not (.bool x)).run Try.prog w = .ok (.bool (!x)) w := fun _ _ => rfl
  clear hh
  cases b with
  | false =>
    clear hn
    go_enter_defers Try.func29, Try.ntmps29
    go_wp2_with fail
    refine HH.out.mono ?_
    rintro e w1 ⟨rfl, rfl⟩
    go_wp2_with fail
    exact ⟨_, results_tmp rfl _ _ _, rfl, rfl⟩
  | true =>
    obtain rfl : names = false := hn
    go_enter_defers Try.func29, Try.ntmps29
    go_wp2_with fail
    refine HH.out.mono ?_
    rintro e w1 ⟨rfl, rfl⟩
    go_wp2_with fail
    exact ⟨_, results_tmp rfl _ _ _, rfl, rfl⟩
theorem step_deferred (acc pgn : Nat) (o : Nat) (st : Int) (fv : Value) (u : FrameMode) (w : World) (hl : acc < w.heap.size) (h0 : w.cell? ⟨acc, 0, none⟩ = some (.pointer (some ⟨pgn, o, none⟩))) (hl2 : pgn < w.heap.size) (h1 : w.cell? ⟨pgn, o + 6, none⟩ = some (.int .i64 st)) (h2 : w.frozen? ⟨pgn, o + 6, none⟩ = false) :
    CallsD Try.prog 53 #[.pointer (some ⟨acc, 0, none⟩)] u w fun e u' w' => u' = u ∧ (e = .returned (.tuple #[]) ∧ w' = w.setCell ⟨pgn, o + 6, none⟩ (.int .i64 (wrap64 (st + 1)))) := by
  go_enter_d Try.func53, Try.ntmps53
  go_wp2_with fail
  go_end0
  exact ⟨rfl, rfl⟩
theorem make_yes {Rr : Me → World → Prop} (h : MemAt W mg pg sg M) {i : Nat} (hi : i < M.pr.length) (F : Nat) (cap : Array Value) (hF : ∀ w, (callFunc F cap).run Try.prog w = .ok (.enter F cap) w)
    (hcl : Calls Try.prog F cap (W.alloc (.cells #[.pointer (some ⟨pg, i * 7, none⟩), .func (.func F) #[] cap] 96)) fun e W' => e = .returned (.tuple #[]) ∧ ∃ M', MemAt W' mg pg sg M' ∧ M'.pr.length = M.pr.length ∧ Blk W' W.heap.size [.pointer (some ⟨pg, i * 7, none⟩), .func (.func F) #[] cap] ∧ Rr M' W') :
    Calls Try.prog 29 #[.pointer (some ⟨mg, 0, none⟩), .int .i64 i, .bool true, .func (.func F) #[] cap] W fun e W' => e = .returned (.bool true) ∧ ∃ M' W1, ∃ hi : i < M'.pr.length, Rr M' W1 ∧ MemAt W1 mg pg sg M' ∧ W' = W1.setCell ⟨pg, i * 7 + 6, none⟩ (.int .i64 (wrap64 ((M'.pr[i]).st + 1))) := by
  have HH := Lib.hid (has_at h i)
  rw [hasB_nat hi] at HH
  have hnot : ∀ (x : Bool) (w : World), (Op.unary .not (.bool x)).run Try.prog w = .ok (.bool (!x)) w := fun _ _ => rfl
  have hmf : ∀ (fn : Fn) (first cap : Array Value) (w : World), (Instr.makeFunc fn first cap).run Try.prog w = .ok (.func fn first cap) w := fun _ _ _ _ => rfl
  have c0 := h.bm.c 0 _ rfl
  have hl := h.bm.l
  have hpl := h.bp.l
  have h1 := h.lp
  have i1 : (i : Int) < (M.pr.length : Int) := by omega
  have HCL := Lib.hid hcl
  have HI := Lib.hid hi
  clear hcl h hi
  obtain ⟨n, hn⟩ : ∃ n, M.pr.length = n := ⟨_, rfl⟩
  have HN := Lib.hid hn
  rw [hn] at c0 h1 i1
  clear hn
  go_enter_defers Try.func29, Try.ntmps29
  go_wp2_with fail
  refine HH.out.mono ?_
  rintro e w1 ⟨rfl, rfl⟩
  go_wp2_with fail
  refine HCL.out.mono ?_
  rintro e w2 ⟨rfl, M', hm, hlen, hacc, hR⟩
  have HM := Lib.hid hm
  have HL := Lib.hid hlen
  have HA := Lib.hid hacc
  have HR := Lib.hid hR
  clear hm hlen hacc hR HCL
  go_wp2_with fail
  have hi' : i < M'.pr.length := by rw [HL.out]; exact HI.out
  refine leaves_cons (f := 53) (args := #[.pointer (some ⟨w1.heap.size, 0, none⟩)]) (by simp) (by simp [go_sem]) ?_
  refine (step_deferred w1.heap.size pg (i * 7) (M'.pr[i]).st (.func (.func F) #[] cap) .returning _ HA.out.l (HA.out.c 0 _ rfl) HM.out.bp.l (HM.out.pcell hi' 6 _ (by decide) rfl) (HM.out.bp.f _)).mono ?_
  rintro e u' w'' ⟨rfl, rfl, rfl⟩
  exact ⟨_, results_tmp rfl _ _ _, rfl, M', w2, hi', HR.out, HM.out, rfl⟩
end
end Go.Proofs.Ythllfeogchbihac
