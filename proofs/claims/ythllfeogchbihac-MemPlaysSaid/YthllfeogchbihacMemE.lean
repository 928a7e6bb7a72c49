/- Memories: the closures of the reads. -/
import Derived.Test.YthllfeogchbihacMemD
namespace Go.Proofs.Ythllfeogchbihac
open Go.RowKit
set_option linter.unusedSimpArgs false
set_option linter.unusedVariables false
section
variable {w W : World} {mg pg sg : Nat} {M : Me}
set_option maxRecDepth 100000 in
theorem publ_c {Y : World} {b0 b1 b2 : Nat} {i : Nat} (h : MemAt Y mg pg sg M) (hi : i < M.pr.length) (p0 : Blk Y b0 [.pointer (some ⟨mg, 0, none⟩)]) (p1 : Blk Y b1 [.int .i64 i]) (p2 : Blk Y b2 [.int .i64 0]) (n2 : ¬ MF mg pg sg b2) (n0 : b0 ≠ b2) (n1 : b1 ≠ b2) :
    Calls Try.prog 49 #[.pointer (some ⟨b0, 0, none⟩), .pointer (some ⟨b1, 0, none⟩), .pointer (some ⟨b2, 0, none⟩)] Y fun e Y' => e = .returned (.tuple #[]) ∧ Touch (fun b => b = b2) Y Y' ∧ Blk Y' b2 [.int .i64 M.pr[i].pos] := by
  have d0 := p0.c 0 _ rfl
  have d1 := p1.c 0 _ rfl
  have l0 := p0.l
  have l1 := p1.l
  have l2 := p2.l
  have lm := h.bm.l
  have ls := h.bp.l
  have c1 := h.bm.c 0 _ rfl
  have h1 := h.lp
  have i1 : (i : Int) < (M.pr.length : Int) := by omega
  have a0 := h.pcell hi 5 _ (by decide) rfl
  have z0 := p2.c 0 _ rfl
  have zf0 := p2.f 0
  have HP2 := Lib.hid p2
  clear h p0 p1 p2 n2
  generalize M.pr[i] = x at *
  generalize M.pr.length = n at *
  go_enter Try.func49, Try.ntmps49
  go_wp2_with fail
  go_region
  go_wp2_with fail
  go_end0
  have p2 := HP2.out
  exact ⟨rfl, Touch.drew ((Touch.refl (fun b => b = b2) Y).setCell ⟨b2, 0, none⟩ (.int .i64 x.pos) (fun _ => rfl)), Blk.drew (p2.set (j := 0) rfl (.int .i64 x.pos))⟩
set_option maxRecDepth 100000 in
theorem slot_c {Y : World} {b0 b1 b2 : Nat} {i : Nat} (h : MemAt Y mg pg sg M) (hi : i < M.sl.length) (p0 : Blk Y b0 [.pointer (some ⟨mg, 0, none⟩)]) (p1 : Blk Y b1 [.int .i64 i]) (p2 : Blk Y b2 [.int .i64 0, .int .i64 0, .int .i64 0, .int .u8 0, .int .i64 0, .slice none 0 0, .slice none 0 0]) (n2 : ¬ MF mg pg sg b2) (n0 : b0 ≠ b2) (n1 : b1 ≠ b2) :
    Calls Try.prog 50 #[.pointer (some ⟨b0, 0, none⟩), .pointer (some ⟨b1, 0, none⟩), .pointer (some ⟨b2, 0, none⟩)] Y fun e Y' => e = .returned (.tuple #[]) ∧ Touch (fun b => b = b2) Y Y' ∧ Blk Y' b2 [.int .i64 M.sl[i].i, .int .i64 M.sl[i].p, .int .i64 M.sl[i].s, .int .u8 M.sl[i].k, .int .i64 M.sl[i].m, .slice none 0 0, .slice none 0 0] := by
  have d0 := p0.c 0 _ rfl
  have d1 := p1.c 0 _ rfl
  have l0 := p0.l
  have l1 := p1.l
  have l2 := p2.l
  have lm := h.bm.l
  have ls := h.bs.l
  have c1 := h.bm.c 1 _ rfl
  have h1 := h.ls
  have i1 : (i : Int) < (M.sl.length : Int) := by omega
  have a0 := h.scell hi 0 _ (by decide) rfl
  rw [Nat.add_zero] at a0
  have a1 := h.scell hi 1 _ (by decide) rfl
  have a2 := h.scell hi 2 _ (by decide) rfl
  have a3 := h.scell hi 3 _ (by decide) rfl
  have a4 := h.scell hi 4 _ (by decide) rfl
  have a5 := h.scell hi 5 _ (by decide) rfl
  have a6 := h.scell hi 6 _ (by decide) rfl
  have z0 := p2.c 0 _ rfl
  have z1 := p2.c 1 _ rfl
  have z2 := p2.c 2 _ rfl
  have z3 := p2.c 3 _ rfl
  have z4 := p2.c 4 _ rfl
  have z5 := p2.c 5 _ rfl
  have z6 := p2.c 6 _ rfl
  have zf0 := p2.f 0
  have zf1 := p2.f 1
  have zf2 := p2.f 2
  have zf3 := p2.f 3
  have zf4 := p2.f 4
  have zf5 := p2.f 5
  have zf6 := p2.f 6
  have HP2 := Lib.hid p2
  clear h p0 p1 p2 n2
  generalize M.sl[i] = x at *
  generalize M.sl.length = n at *
  go_enter Try.func50, Try.ntmps50
  go_wp2_with fail
  go_region
  go_wp2_with fail
  go_end0
  have p2 := HP2.out
  exact ⟨rfl, Touch.drew ((((((((Touch.refl (fun b => b = b2) Y).setCell ⟨b2, 0, none⟩ (.int .i64 x.i) (fun _ => rfl)).setCell ⟨b2, 1, none⟩ (.int .i64 x.p) (fun _ => rfl)).setCell ⟨b2, 2, none⟩ (.int .i64 x.s) (fun _ => rfl)).setCell ⟨b2, 3, none⟩ (.int .u8 x.k) (fun _ => rfl)).setCell ⟨b2, 4, none⟩ (.int .i64 x.m) (fun _ => rfl)).setCell ⟨b2, 5, none⟩ (.slice none 0 0) (fun _ => rfl)).setCell ⟨b2, 6, none⟩ (.slice none 0 0) (fun _ => rfl)), Blk.drew (((((((p2.set (j := 0) rfl (.int .i64 x.i)).set (j := 1) rfl (.int .i64 x.p)).set (j := 2) rfl (.int .i64 x.s)).set (j := 3) rfl (.int .u8 x.k)).set (j := 4) rfl (.int .i64 x.m)).set (j := 5) rfl (.slice none 0 0)).set (j := 6) rfl (.slice none 0 0))⟩
set_option maxRecDepth 100000 in
theorem annd_c {Y : World} {b0 b1 b2 : Nat} {i : Nat} (h : MemAt Y mg pg sg M) (hi : i < M.pr.length) (p0 : Blk Y b0 [.pointer (some ⟨mg, 0, none⟩)]) (p1 : Blk Y b1 [.int .i64 i]) (p2 : Blk Y b2 [.int .i64 0, .int .u8 0, .int .i64 0, .slice none 0 0, .slice none 0 0]) (n2 : ¬ MF mg pg sg b2) (n0 : b0 ≠ b2) (n1 : b1 ≠ b2) :
    Calls Try.prog 48 #[.pointer (some ⟨b0, 0, none⟩), .pointer (some ⟨b1, 0, none⟩), .pointer (some ⟨b2, 0, none⟩)] Y fun e Y' => e = .returned (.tuple #[]) ∧ Touch (fun b => b = b2) Y Y' ∧ Blk Y' b2 [.int .i64 M.pr[i].s, .int .u8 M.pr[i].k, .int .i64 M.pr[i].m, .slice none 0 0, .slice none 0 0] := by
  have d0 := p0.c 0 _ rfl
  have d1 := p1.c 0 _ rfl
  have l0 := p0.l
  have l1 := p1.l
  have l2 := p2.l
  have lm := h.bm.l
  have ls := h.bp.l
  have c1 := h.bm.c 0 _ rfl
  have h1 := h.lp
  have i1 : (i : Int) < (M.pr.length : Int) := by omega
  have a0 := h.pcell hi 0 _ (by decide) rfl
  rw [Nat.add_zero] at a0
  have a1 := h.pcell hi 1 _ (by decide) rfl
  have a2 := h.pcell hi 2 _ (by decide) rfl
  have a3 := h.pcell hi 3 _ (by decide) rfl
  have a4 := h.pcell hi 4 _ (by decide) rfl
  have z0 := p2.c 0 _ rfl
  have z1 := p2.c 1 _ rfl
  have z2 := p2.c 2 _ rfl
  have z3 := p2.c 3 _ rfl
  have z4 := p2.c 4 _ rfl
  have zf0 := p2.f 0
  have zf1 := p2.f 1
  have zf2 := p2.f 2
  have zf3 := p2.f 3
  have zf4 := p2.f 4
  have HP2 := Lib.hid p2
  clear h p0 p1 p2 n2
  generalize M.pr[i] = x at *
  generalize M.pr.length = n at *
  go_enter Try.func48, Try.ntmps48
  go_wp2_with fail
  go_region
  go_wp2_with fail
  go_end0
  have p2 := HP2.out
  exact ⟨rfl, Touch.drew ((((((Touch.refl (fun b => b = b2) Y).setCell ⟨b2, 0, none⟩ (.int .i64 x.s) (fun _ => rfl)).setCell ⟨b2, 1, none⟩ (.int .u8 x.k) (fun _ => rfl)).setCell ⟨b2, 2, none⟩ (.int .i64 x.m) (fun _ => rfl)).setCell ⟨b2, 3, none⟩ (.slice none 0 0) (fun _ => rfl)).setCell ⟨b2, 4, none⟩ (.slice none 0 0) (fun _ => rfl)), Blk.drew (((((p2.set (j := 0) rfl (.int .i64 x.s)).set (j := 1) rfl (.int .u8 x.k)).set (j := 2) rfl (.int .i64 x.m)).set (j := 3) rfl (.slice none 0 0)).set (j := 4) rfl (.slice none 0 0))⟩
end
end Go.Proofs.Ythllfeogchbihac
