/- MemPlays: does: SwapSnapshot, Swap. -/
import Derived.Test.YthllfeogchbihacMemPd
import Derived.Deep.DeepCutAuto
namespace Go.Proofs.Ythllfeogchbihac
open Go.RowKit
set_option linter.unusedSimpArgs false
set_option linter.unusedVariables false
section
variable {w W : World} {mg rg : Nat} {M R : Me} {xs : List Int}

def K7 (b5 : Nat) (k p q x y z : Int) (w' : World) : Prop := w'.cell? ⟨b5, 0, none⟩ = some (.int .u8 k) ∧ w'.cell? ⟨b5, 1, none⟩ = some (.int .i64 p) ∧ w'.cell? ⟨b5, 2, none⟩ = some (.int .i64 q) ∧ w'.cell? ⟨b5, 3, none⟩ = some (.int .i64 x) ∧ w'.cell? ⟨b5, 4, none⟩ = some (.int .i64 y) ∧ w'.cell? ⟨b5, 5, none⟩ = some (.int .i64 z) ∧ b5 < w'.heap.size
theorem keep7_same {b5 : Nat} {k p q x y z : Int} {V V' : World} (h : K7 b5 k p q x y z V) (hc : ∀ j, V'.cell? ⟨b5, j, none⟩ = V.cell? ⟨b5, j, none⟩) (hs : V.heap.size ≤ V'.heap.size) : K7 b5 k p q x y z V' := by
  obtain ⟨h0, h1, h2, h3, h4, h5, h6⟩ := h
  exact ⟨by rw [hc]; exact h0, by rw [hc]; exact h1, by rw [hc]; exact h2, by rw [hc]; exact h3, by rw [hc]; exact h4, by rw [hc]; exact h5, by omega⟩
theorem keep7_below {b5 : Nat} {k p q x y z : Int} {V V' : World} (hb : Below V.heap.size V V') (h : K7 b5 k p q x y z V) : K7 b5 k p q x y z V' :=
  keep7_same h (fun j => hb.cell (p := ⟨b5, j, none⟩) h.2.2.2.2.2.2) hb.size
theorem keep7_alloc {b5 : Nat} {k p q x y z : Int} {V : World} (h : K7 b5 k p q x y z V) (o : Obj) : K7 b5 k p q x y z (V.alloc o) := keep7_below ((Below.refl _ _).alloc (Nat.le_refl _) _) h
theorem keep7_drew {b5 : Nat} {k p q x y z : Int} {V : World} (h : K7 b5 k p q x y z V) : K7 b5 k p q x y z V.drew := keep7_below (below_drew (Below.refl _ _)) h
theorem keep7_set {b5 : Nat} {k p q x y z : Int} {V : World} {b : Nat} (h : K7 b5 k p q x y z V) (hn : b ≠ b5) (j : Nat) (v : Value) : K7 b5 k p q x y z (V.setCell ⟨b, j, none⟩ v) := by
  have t := (Touch.refl (fun c => c = b) V).setCell ⟨b, j, none⟩ v (fun _ => rfl)
  exact keep7_same h (fun i => t.cell h.2.2.2.2.2.2 (fun e => hn (by have e : b5 = b := e; exact e.symm))) t.size

def Two (X wx : World) (c d : Nat) (A B : List Value) : Prop := Below X.heap.size X wx ∧ X.heap.size ≤ c ∧ X.heap.size ≤ d ∧ Blk wx c A ∧ Blk wx d B
theorem Two.symm {X wx : World} {c d : Nat} {A B : List Value} (h : Two X wx c d A B) : Two X wx d c B A := ⟨h.1, h.2.2.1, h.2.1, h.2.2.2.2, h.2.2.2.1⟩
theorem set7 {V : World} {b : Nat} {u0 u1 u2 u3 u4 u5 u6 : Value} (h : Blk V b [u0, u1, u2, u3, u4, u5, u6]) (a0 a1 a2 a3 a4 a5 a6 : Value) : Blk (((((((V.setCell ⟨b, 0, none⟩ a0).setCell ⟨b, 1, none⟩ a1).setCell ⟨b, 2, none⟩ a2).setCell ⟨b, 3, none⟩ a3).setCell ⟨b, 4, none⟩ a4).setCell ⟨b, 5, none⟩ a5).setCell ⟨b, 6, none⟩ a6) b [a0, a1, a2, a3, a4, a5, a6] ∧ Touch (fun c => c = b) V (((((((V.setCell ⟨b, 0, none⟩ a0).setCell ⟨b, 1, none⟩ a1).setCell ⟨b, 2, none⟩ a2).setCell ⟨b, 3, none⟩ a3).setCell ⟨b, 4, none⟩ a4).setCell ⟨b, 5, none⟩ a5).setCell ⟨b, 6, none⟩ a6) :=
  ⟨(((((((h.set (j := 0) rfl a0).set (j := 1) rfl a1).set (j := 2) rfl a2).set (j := 3) rfl a3).set (j := 4) rfl a4).set (j := 5) rfl a5).set (j := 6) rfl a6), ((((((((Touch.refl (fun c => c = b) V).setCell ⟨b, 0, none⟩ a0 (fun _ => rfl)).setCell ⟨b, 1, none⟩ a1 (fun _ => rfl)).setCell ⟨b, 2, none⟩ a2 (fun _ => rfl)).setCell ⟨b, 3, none⟩ a3 (fun _ => rfl)).setCell ⟨b, 4, none⟩ a4 (fun _ => rfl)).setCell ⟨b, 5, none⟩ a5 (fun _ => rfl)).setCell ⟨b, 6, none⟩ a6 (fun _ => rfl))⟩
theorem two_1 {X w4 : World} (h0 : Below X.drew.heap.size X.drew w4) (a0 a1 a2 a3 a4 a5 a6 b0 b1 b2 b3 b4 b5 b6 : Value) : Two X ((w4.alloc (.cells #[a0, a1, a2, a3, a4, a5, a6] 47)).alloc (.cells #[b0, b1, b2, b3, b4, b5, b6] 47)) w4.heap.size (w4.heap.size + 1) [a0, a1, a2, a3, a4, a5, a6] [b0, b1, b2, b3, b4, b5, b6] := by
  have h : Below X.heap.size X w4 := (below_drew (Below.refl _ _)).trans h0
  have hs := h.size
  refine ⟨(h.alloc hs _).alloc (by simp; omega) _, hs, by omega, (Blk.new w4 #[a0, a1, a2, a3, a4, a5, a6] 47).alloc _, ?_⟩
  have := Blk.new (w4.alloc (.cells #[a0, a1, a2, a3, a4, a5, a6] 47)) #[b0, b1, b2, b3, b4, b5, b6] 47
  rw [World.size_alloc] at this
  exact this
theorem two_3 {X w4 : World} (h : Below (X.alloc (.cells #[.int .i64 0, .int .i64 0, .int .i64 0, .int .u8 0, .int .i64 0, .slice none 0 0, .slice none 0 0] 47)).drew.heap.size (X.alloc (.cells #[.int .i64 0, .int .i64 0, .int .i64 0, .int .u8 0, .int .i64 0, .slice none 0 0, .slice none 0 0] 47)).drew w4) (a0 a1 a2 a3 a4 a5 a6 b0 b1 b2 b3 b4 b5 b6 : Value) : Two X ((((((((w4.setCell ⟨X.heap.size, 0, none⟩ a0).setCell ⟨X.heap.size, 1, none⟩ a1).setCell ⟨X.heap.size, 2, none⟩ a2).setCell ⟨X.heap.size, 3, none⟩ a3).setCell ⟨X.heap.size, 4, none⟩ a4).setCell ⟨X.heap.size, 5, none⟩ a5).setCell ⟨X.heap.size, 6, none⟩ a6).alloc (.cells #[b0, b1, b2, b3, b4, b5, b6] 47)) X.heap.size w4.heap.size [a0, a1, a2, a3, a4, a5, a6] [b0, b1, b2, b3, b4, b5, b6] := by
  have hs := h.size
  rw [World.size_drew, World.size_alloc] at hs
  have z : Blk w4 X.heap.size _ := (Blk.new X #[.int .i64 0, .int .i64 0, .int .i64 0, .int .u8 0, .int .i64 0, .slice none 0 0, .slice none 0 0] 47).drew.below h
  have hX : Below X.heap.size X w4 := (below_drew ((Below.refl _ _).alloc (Nat.le_refl _) _)).trans (h.mono (by simp))
  obtain ⟨k1, k2⟩ := set7 z a0 a1 a2 a3 a4 a5 a6
  have hk := k2.size
  have hB : Below X.heap.size X (((((((w4.setCell ⟨X.heap.size, 0, none⟩ a0).setCell ⟨X.heap.size, 1, none⟩ a1).setCell ⟨X.heap.size, 2, none⟩ a2).setCell ⟨X.heap.size, 3, none⟩ a3).setCell ⟨X.heap.size, 4, none⟩ a4).setCell ⟨X.heap.size, 5, none⟩ a5).setCell ⟨X.heap.size, 6, none⟩ a6) := hX.trans (k2.below (n := X.heap.size) (by omega) (fun c e => by have e : c = X.heap.size := e; omega))
  refine ⟨hB.alloc hB.size _, Nat.le_refl _, by omega, k1.alloc _, ?_⟩
  have := Blk.new (((((((w4.setCell ⟨X.heap.size, 0, none⟩ a0).setCell ⟨X.heap.size, 1, none⟩ a1).setCell ⟨X.heap.size, 2, none⟩ a2).setCell ⟨X.heap.size, 3, none⟩ a3).setCell ⟨X.heap.size, 4, none⟩ a4).setCell ⟨X.heap.size, 5, none⟩ a5).setCell ⟨X.heap.size, 6, none⟩ a6) #[b0, b1, b2, b3, b4, b5, b6] 47
  simpa only [World.size_setCell] using this
theorem two_4 {X w4 : World} (h : Below ((X.alloc (.cells #[.int .i64 0, .int .i64 0, .int .i64 0, .int .u8 0, .int .i64 0, .slice none 0 0, .slice none 0 0] 47)).alloc (.cells #[.int .i64 0, .int .i64 0, .int .i64 0, .int .u8 0, .int .i64 0, .slice none 0 0, .slice none 0 0] 47)).drew.heap.size ((X.alloc (.cells #[.int .i64 0, .int .i64 0, .int .i64 0, .int .u8 0, .int .i64 0, .slice none 0 0, .slice none 0 0] 47)).alloc (.cells #[.int .i64 0, .int .i64 0, .int .i64 0, .int .u8 0, .int .i64 0, .slice none 0 0, .slice none 0 0] 47)).drew w4) (a0 a1 a2 a3 a4 a5 a6 b0 b1 b2 b3 b4 b5 b6 : Value) : Two X ((((((((((((((w4.setCell ⟨X.heap.size, 0, none⟩ a0).setCell ⟨X.heap.size, 1, none⟩ a1).setCell ⟨X.heap.size, 2, none⟩ a2).setCell ⟨X.heap.size, 3, none⟩ a3).setCell ⟨X.heap.size, 4, none⟩ a4).setCell ⟨X.heap.size, 5, none⟩ a5).setCell ⟨X.heap.size, 6, none⟩ a6).setCell ⟨X.heap.size + 1, 0, none⟩ b0).setCell ⟨X.heap.size + 1, 1, none⟩ b1).setCell ⟨X.heap.size + 1, 2, none⟩ b2).setCell ⟨X.heap.size + 1, 3, none⟩ b3).setCell ⟨X.heap.size + 1, 4, none⟩ b4).setCell ⟨X.heap.size + 1, 5, none⟩ b5).setCell ⟨X.heap.size + 1, 6, none⟩ b6) X.heap.size (X.heap.size + 1) [a0, a1, a2, a3, a4, a5, a6] [b0, b1, b2, b3, b4, b5, b6] := by
  have hs := h.size
  rw [World.size_drew, World.size_alloc, World.size_alloc] at hs
  have z : Blk w4 X.heap.size _ := ((Blk.new X #[.int .i64 0, .int .i64 0, .int .i64 0, .int .u8 0, .int .i64 0, .slice none 0 0, .slice none 0 0] 47).alloc _).drew.below h
  have z2 := (Blk.new (X.alloc (.cells #[.int .i64 0, .int .i64 0, .int .i64 0, .int .u8 0, .int .i64 0, .slice none 0 0, .slice none 0 0] 47)) #[.int .i64 0, .int .i64 0, .int .i64 0, .int .u8 0, .int .i64 0, .slice none 0 0, .slice none 0 0] 47).drew.below h
  rw [World.size_alloc] at z2
  have hX : Below X.heap.size X w4 := (below_drew (((Below.refl _ _).alloc (Nat.le_refl _) _).alloc (by simp) _)).trans (h.mono (by simp; omega))
  obtain ⟨k1, k2⟩ := set7 z a0 a1 a2 a3 a4 a5 a6
  have z3 := z2.touch k2 (fun e => by have e : X.heap.size + 1 = X.heap.size := e; omega)
  obtain ⟨k3, k4⟩ := set7 z3 b0 b1 b2 b3 b4 b5 b6
  have k5 := k1.touch k4 (fun e => by have e : X.heap.size = X.heap.size + 1 := e; omega)
  have hk := k2.size
  exact ⟨(hX.trans (k2.below (n := X.heap.size) (by omega) (fun c e => by have e : c = X.heap.size := e; omega))).trans (k4.below (n := X.heap.size) (by omega) (fun c e => by have e : c = X.heap.size + 1 := e; omega)), Nat.le_refl _, by omega, k5, k3⟩
theorem two_5 {X w4 : World} (h : Below ((X.alloc (.cells #[.int .i64 0, .int .i64 0, .int .i64 0, .int .u8 0, .int .i64 0, .slice none 0 0, .slice none 0 0] 47)).alloc (.cells #[.int .i64 0, .int .i64 0, .int .i64 0, .int .u8 0, .int .i64 0, .slice none 0 0, .slice none 0 0] 47)).drew.heap.size ((X.alloc (.cells #[.int .i64 0, .int .i64 0, .int .i64 0, .int .u8 0, .int .i64 0, .slice none 0 0, .slice none 0 0] 47)).alloc (.cells #[.int .i64 0, .int .i64 0, .int .i64 0, .int .u8 0, .int .i64 0, .slice none 0 0, .slice none 0 0] 47)).drew w4) (a0 a1 a2 a3 a4 a5 a6 b0 b1 b2 b3 b4 b5 b6 : Value) : Two X ((((((((((((((w4.setCell ⟨X.heap.size + 1, 0, none⟩ a0).setCell ⟨X.heap.size + 1, 1, none⟩ a1).setCell ⟨X.heap.size + 1, 2, none⟩ a2).setCell ⟨X.heap.size + 1, 3, none⟩ a3).setCell ⟨X.heap.size + 1, 4, none⟩ a4).setCell ⟨X.heap.size + 1, 5, none⟩ a5).setCell ⟨X.heap.size + 1, 6, none⟩ a6).setCell ⟨X.heap.size, 0, none⟩ b0).setCell ⟨X.heap.size, 1, none⟩ b1).setCell ⟨X.heap.size, 2, none⟩ b2).setCell ⟨X.heap.size, 3, none⟩ b3).setCell ⟨X.heap.size, 4, none⟩ b4).setCell ⟨X.heap.size, 5, none⟩ b5).setCell ⟨X.heap.size, 6, none⟩ b6) (X.heap.size + 1) X.heap.size [a0, a1, a2, a3, a4, a5, a6] [b0, b1, b2, b3, b4, b5, b6] := by
  have hs := h.size
  rw [World.size_drew, World.size_alloc, World.size_alloc] at hs
  have z : Blk w4 X.heap.size _ := ((Blk.new X #[.int .i64 0, .int .i64 0, .int .i64 0, .int .u8 0, .int .i64 0, .slice none 0 0, .slice none 0 0] 47).alloc _).drew.below h
  have z2 := (Blk.new (X.alloc (.cells #[.int .i64 0, .int .i64 0, .int .i64 0, .int .u8 0, .int .i64 0, .slice none 0 0, .slice none 0 0] 47)) #[.int .i64 0, .int .i64 0, .int .i64 0, .int .u8 0, .int .i64 0, .slice none 0 0, .slice none 0 0] 47).drew.below h
  rw [World.size_alloc] at z2
  have hX : Below X.heap.size X w4 := (below_drew (((Below.refl _ _).alloc (Nat.le_refl _) _).alloc (by simp) _)).trans (h.mono (by simp; omega))
  obtain ⟨k1, k2⟩ := set7 z2 a0 a1 a2 a3 a4 a5 a6
  have z3 := z.touch k2 (fun e => by have e : X.heap.size = X.heap.size + 1 := e; omega)
  obtain ⟨k3, k4⟩ := set7 z3 b0 b1 b2 b3 b4 b5 b6
  have k5 := k1.touch k4 (fun e => by have e : X.heap.size + 1 = X.heap.size := e; omega)
  have hk := k2.size
  exact ⟨(hX.trans (k2.below (n := X.heap.size) (by omega) (fun c e => by have e : c = X.heap.size + 1 := e; omega))).trans (k4.below (n := X.heap.size) (by omega) (fun c e => by have e : c = X.heap.size := e; omega)), by omega, Nat.le_refl _, k5, k3⟩
def DK3 (b5 : Nat) (cs : List Value) (c d : Nat) (A B : List Value) : Nat → List Value → Prop := fun b vs => (b = b5 ∧ vs = cs) ∨ (b = c ∧ vs = A) ∨ (b = d ∧ vs = B)
theorem PO.three {w W : World} {mg rg : Nat} {M R : Me} {xs ys : List Int} {b5 : Nat} {cs : List Value} (h : PO w W mg rg M R xs ys (DK b5 cs)) {W' : World} {c d : Nat} {A B : List Value} (t : Two W W' c d A B) : PO w W' mg rg M R xs ys (DK3 b5 cs c d A B) := by
  refine h.grow t.1 ?_
  rintro b vs (⟨rfl, rfl⟩ | ⟨rfl, rfl⟩ | ⟨rfl, rfl⟩)
  · exact .inl ⟨rfl, rfl⟩
  · exact .inr ⟨t.2.1, t.2.2.2.1⟩
  · exact .inr ⟨t.2.2.1, t.2.2.2.2⟩
set_option maxRecDepth 100000 in
set_option maxHeartbeats 20000000 in
theorem does_5 (h : PO w W mg rg M R xs xs (fun _ _ => False)) (hE : EqR M R) (k p q x y z : Int) (hk : 0 ≤ k ∧ k ≤ 255) (hc : k % 8 = 5) : Calls Try.prog 17 #[.pointer (some ⟨mg, 0, none⟩), .pointer (some ⟨rg, 0, none⟩), .agg #[.int .u8 k, .int .i64 p, .int .i64 q, .int .i64 x, .int .i64 y, .int .i64 z]] W fun e W' => DoesEnd w mg rg e W' := by
  obtain ⟨X, b5, hX, hb5, hP⟩ := does_start h k p q x y z
  have k0 := hk.1
  have k1 := hk.2
  have t0 : (k % 8 == 0) = false := by rw [hc]; decide
  have t1 : (k % 8 == 1) = false := by rw [hc]; decide
  have t2 : (k % 8 == 2) = false := by rw [hc]; decide
  have t3 : (k % 8 == 3) = false := by rw [hc]; decide
  have t4 : (k % 8 == 4) = false := by rw [hc]; decide
  have t5 : (k % 8 == 5) = true := by rw [hc]; decide
  have a0 := hP.act.c 0 _ rfl
  have a1 := hP.act.c 1 _ rfl
  have a2 := hP.act.c 2 _ rfl
  have a3 := hP.act.c 3 _ rfl
  have a4 := hP.act.c 4 _ rfl
  have a5 := hP.act.c 5 _ rfl
  have al := hP.act.l
  have HE := Lib.hid (And.intro hX hb5)
  have HPX := Lib.hid hP
  have HP := Lib.hid (hP.below (below_drew (Below.refl _ _)))
  have HQ := Lib.hid hE
  clear hX hb5 hP hE h hk hc
  have HEN := Lib.hid (fun W => entry_at W k p q x y z)
  have hkeep0 : K7 b5 k p q x y z X := ⟨a0, a1, a2, a3, a4, a5, al⟩
  go_enter Try.func17, Try.ntmps17
  go_wp2_with fail
  rw [HE.out.1, HE.out.2]
  clear HE
  go_upto_region 19 with fail
  have HK0 := Lib.hid hkeep0
  clear hkeep0
  go_cut [19, 20] (fun s19 s20 wx => ∃ c d, s19 = .pointer (some ⟨c, 0, none⟩) ∧ s20 = .pointer (some ⟨d, 0, none⟩) ∧ Two X wx c d [.int .i64 x, .int .i64 0, .int .i64 0, .int .u8 0, .int .i64 0, .slice none 0 0, .slice none 0 0] [.int .i64 y, .int .i64 p, .int .i64 y, .int .u8 1, .int .i64 z, .slice none 0 0, .slice none 0 0])
  case first =>
   go_region_held3 (fun w' => w'.cell? ⟨b5, 0, none⟩ = some (.int .u8 k) ∧ w'.cell? ⟨b5, 1, none⟩ = some (.int .i64 p) ∧ w'.cell? ⟨b5, 2, none⟩ = some (.int .i64 q) ∧ w'.cell? ⟨b5, 3, none⟩ = some (.int .i64 x) ∧ w'.cell? ⟨b5, 4, none⟩ = some (.int .i64 y) ∧ w'.cell? ⟨b5, 5, none⟩ = some (.int .i64 z) ∧ b5 < w'.heap.size)
    ((change K7 b5 k p q x y z _; repeat (first | (with_reducible exact hkeep) | (with_reducible exact keep7_drew HK0.out) | (with_reducible exact HK0.out) | with_reducible refine keep7_alloc ?_ _ | with_reducible refine keep7_drew ?_ | with_reducible refine keep7_set ?_ ?_ _ _ | omega | (simp; done) | (simp; omega))))
    (first
      | (go_at_call 34; refine (HEN.out _).mono ?_; rintro e w4 ⟨rfl, hb4⟩
         have hkeep : K7 b5 k p q x y z w4 := keep7_below hb4 (by repeat (first | (with_reducible exact keep7_drew HK0.out) | (with_reducible exact HK0.out) | with_reducible refine keep7_alloc ?_ _ | with_reducible refine keep7_drew ?_ | with_reducible refine keep7_set ?_ ?_ _ _ | omega | (simp; done) | (simp; omega)))
         have hs4 := hb4.size
         (try simp at hs4)
         have ca0 := fun hz => hb4.cell (p := ⟨X.heap.size, 0, none⟩) hz
         have fa0 := fun hz => hb4.frozen (p := ⟨X.heap.size, 0, none⟩) hz
         have ca1 := fun hz => hb4.cell (p := ⟨X.heap.size, 1, none⟩) hz
         have fa1 := fun hz => hb4.frozen (p := ⟨X.heap.size, 1, none⟩) hz
         have ca2 := fun hz => hb4.cell (p := ⟨X.heap.size, 2, none⟩) hz
         have fa2 := fun hz => hb4.frozen (p := ⟨X.heap.size, 2, none⟩) hz
         have ca3 := fun hz => hb4.cell (p := ⟨X.heap.size, 3, none⟩) hz
         have fa3 := fun hz => hb4.frozen (p := ⟨X.heap.size, 3, none⟩) hz
         have ca4 := fun hz => hb4.cell (p := ⟨X.heap.size, 4, none⟩) hz
         have fa4 := fun hz => hb4.frozen (p := ⟨X.heap.size, 4, none⟩) hz
         have ca5 := fun hz => hb4.cell (p := ⟨X.heap.size, 5, none⟩) hz
         have fa5 := fun hz => hb4.frozen (p := ⟨X.heap.size, 5, none⟩) hz
         have ca6 := fun hz => hb4.cell (p := ⟨X.heap.size, 6, none⟩) hz
         have fa6 := fun hz => hb4.frozen (p := ⟨X.heap.size, 6, none⟩) hz
         (try simp [go_sem] at ca0 fa0 ca1 fa1 ca2 fa2 ca3 fa3 ca4 fa4 ca5 fa5 ca6 fa6)
         have cb0 := fun hz => hb4.cell (p := ⟨X.heap.size + 1, 0, none⟩) hz
         have fb0 := fun hz => hb4.frozen (p := ⟨X.heap.size + 1, 0, none⟩) hz
         have cb1 := fun hz => hb4.cell (p := ⟨X.heap.size + 1, 1, none⟩) hz
         have fb1 := fun hz => hb4.frozen (p := ⟨X.heap.size + 1, 1, none⟩) hz
         have cb2 := fun hz => hb4.cell (p := ⟨X.heap.size + 1, 2, none⟩) hz
         have fb2 := fun hz => hb4.frozen (p := ⟨X.heap.size + 1, 2, none⟩) hz
         have cb3 := fun hz => hb4.cell (p := ⟨X.heap.size + 1, 3, none⟩) hz
         have fb3 := fun hz => hb4.frozen (p := ⟨X.heap.size + 1, 3, none⟩) hz
         have cb4 := fun hz => hb4.cell (p := ⟨X.heap.size + 1, 4, none⟩) hz
         have fb4 := fun hz => hb4.frozen (p := ⟨X.heap.size + 1, 4, none⟩) hz
         have cb5 := fun hz => hb4.cell (p := ⟨X.heap.size + 1, 5, none⟩) hz
         have fb5 := fun hz => hb4.frozen (p := ⟨X.heap.size + 1, 5, none⟩) hz
         have cb6 := fun hz => hb4.cell (p := ⟨X.heap.size + 1, 6, none⟩) hz
         have fb6 := fun hz => hb4.frozen (p := ⟨X.heap.size + 1, 6, none⟩) hz
         (try simp [go_sem] at cb0 fb0 cb1 fb1 cb2 fb2 cb3 fb3 cb4 fb4 cb5 fb5 cb6 fb6)
         (first | (have la' : X.heap.size < w4.heap.size := by omega) | skip)
         (first | (have lb' : X.heap.size + 1 < w4.heap.size := by omega) | skip)
         have HB4 := Lib.hid hb4
         clear hb4)
      | fail)
   all_goals go_wp2_with fail
   all_goals go_meet
   all_goals (refine ⟨_, _, rfl, rfl, ?_⟩; first | with_reducible exact two_1 HB4.out _ _ _ _ _ _ _ _ _ _ _ _ _ _ | with_reducible exact (two_1 HB4.out _ _ _ _ _ _ _ _ _ _ _ _ _ _).symm | with_reducible exact two_3 HB4.out _ _ _ _ _ _ _ _ _ _ _ _ _ _ | with_reducible exact (two_3 HB4.out _ _ _ _ _ _ _ _ _ _ _ _ _ _).symm | with_reducible exact two_4 HB4.out _ _ _ _ _ _ _ _ _ _ _ _ _ _ | with_reducible exact two_5 HB4.out _ _ _ _ _ _ _ _ _ _ _ _ _ _ | fail)
  case rest =>
    obtain ⟨c, d, rfl, rfl, ht⟩ := hcut
    have h := HPX.out.three ht
    obtain ⟨bs, hbs⟩ : ∃ bs, swapB M p q ⟨x, 0, 0, 0, 0⟩ = bs := ⟨_, rfl⟩
    obtain ⟨bi, hbi⟩ : ∃ bi, swapIs M p q = bi := ⟨_, rfl⟩
    have HM := pm_swap h p q ⟨x, 0, 0, 0, 0⟩ ⟨y, p, y, 1, z⟩
    rw [hbs, hbi] at HM
    unfold sagg bool2 at HM
    have HM1 := Lib.hid HM
    have HR : Hid (∀ V M' K, PO w V mg rg M' R xs xs K → Calls Try.prog 42 #[.pointer (some ⟨rg, 0, none⟩), .int .i64 p, .int .i64 q, sagg ⟨x, 0, 0, 0, 0⟩, sagg ⟨y, p, y, 1, z⟩] V fun e W' => e = .returned (bool2 bs bi) ∧ PO w W' mg rg M' (swapM R p q ⟨x, 0, 0, 0, 0⟩ ⟨y, p, y, 1, z⟩) xs xs K) := Lib.hid (fun V M' K h => by
      have := pr_swap h p q ⟨x, 0, 0, 0, 0⟩ ⟨y, p, y, 1, z⟩
      rw [← HQ.out.swapB, ← HQ.out.swapIs, hbs, hbi] at this
      exact this)
    unfold sagg bool2 at HR
    have HF : Hid (EqR (swapM M p q ⟨x, 0, 0, 0, 0⟩ ⟨y, p, y, 1, z⟩) (swapM R p q ⟨x, 0, 0, 0, 0⟩ ⟨y, p, y, 1, z⟩)) := Lib.hid (HQ.out.swap p q _ _)
    have kA := h.kb _ _ (.inl ⟨rfl, rfl⟩)
    have kB := h.kb c _ (.inr (.inl ⟨rfl, rfl⟩))
    have kC := h.kb d _ (.inr (.inr ⟨rfl, rfl⟩))
    have a1 := kA.c 1 _ rfl
    have a2 := kA.c 2 _ rfl
    have al := kA.l
    have o0 := kB.c 0 _ rfl
    have n0 := kC.c 0 _ rfl
    have o1 := kB.c 1 _ rfl
    have n1 := kC.c 1 _ rfl
    have o2 := kB.c 2 _ rfl
    have n2 := kC.c 2 _ rfl
    have o3 := kB.c 3 _ rfl
    have n3 := kC.c 3 _ rfl
    have o4 := kB.c 4 _ rfl
    have n4 := kC.c 4 _ rfl
    have o5 := kB.c 5 _ rfl
    have n5 := kC.c 5 _ rfl
    have o6 := kB.c 6 _ rfl
    have n6 := kC.c 6 _ rfl
    have ol := kB.l
    have nl := kC.l
    clear h ht kA kB kC HM hbs hbi HQ HK0 HPX HP a0 a3 a4 a5
    generalize swapM M p q ⟨x, 0, 0, 0, 0⟩ ⟨y, p, y, 1, z⟩ = M2 at *
    generalize swapM R p q ⟨x, 0, 0, 0, 0⟩ ⟨y, p, y, 1, z⟩ = R2 at *
    go_wp2_with fail
    refine HM1.out.mono ?_
    rintro e w5 ⟨rfl, h⟩
    have kA := h.kb _ _ (.inl ⟨rfl, rfl⟩)
    have kB := h.kb c _ (.inr (.inl ⟨rfl, rfl⟩))
    have kC := h.kb d _ (.inr (.inr ⟨rfl, rfl⟩))
    have a1 := kA.c 1 _ rfl
    have a2 := kA.c 2 _ rfl
    have al := kA.l
    have o0 := kB.c 0 _ rfl
    have n0 := kC.c 0 _ rfl
    have o1 := kB.c 1 _ rfl
    have n1 := kC.c 1 _ rfl
    have o2 := kB.c 2 _ rfl
    have n2 := kC.c 2 _ rfl
    have o3 := kB.c 3 _ rfl
    have n3 := kC.c 3 _ rfl
    have o4 := kB.c 4 _ rfl
    have n4 := kC.c 4 _ rfl
    have o5 := kB.c 5 _ rfl
    have n5 := kC.c 5 _ rfl
    have o6 := kB.c 6 _ rfl
    have n6 := kC.c 6 _ rfl
    have ol := kB.l
    have nl := kC.l
    have HR1 := Lib.hid (HR.out _ _ _ h)
    clear h kA kB kC HR HM1
    go_wp2_with fail
    refine HR1.out.mono ?_
    rintro e w6 ⟨rfl, h⟩
    have H7 := Lib.hid h.none
    clear h HR1
    go_wp2_with fail
    go_ret
    exact ⟨by simp, _, _, _, H7.out, HF.out⟩
end
end Go.Proofs.Ythllfeogchbihac
