/- Parts of the walk, joined. -/
import Derived.Test.YtkhgpeejmbfmjaaPart30
import Derived.Test.YtkhgpeejmbfmjaaPart01
import Derived.Lib.QuietBelow
import Derived.BigQuiet
/- awake: the examples run. -/
namespace Go.Proofs.Ytkhgpeejmbfmjaa
open Go.RowKit
set_option linter.unusedSimpArgs false
set_option linter.unusedVariables false
set_option maxRecDepth 100000
section
variable {w0 W : World} {X : Sx} {rb : Nat} {fgs : List Nat} {c : Nat} {s : Mc} {K : Nat → Prop} {fg : Nat}

theorem vs_none (w : World) : VsAt w none 0 [] := ⟨rfl, fun i hi => by cases hi⟩
/-- What an example leaves that hands in no globals and is told none. -/
def Ran (w : World) (o : Int × V) (c : Int × Int × Int) (x : Int) (e : Ending) (W' : World) : Prop :=
  ∃ A k, e = .returned (.tuple #[.slice A 0 k, .agg #[.int .i64 o.1, .int .u8 o.2.1, .int .i64 o.2.2.1, .int .i64 o.2.2.2], .agg #[.int .i64 c.1, .int .i64 c.2.1, .int .i64 c.2.2], .int .i64 x]) ∧ Below w.heap.size w W'
theorem run_div {w : World} {n : Int} {p q : Nat} {f s h : Int} {o : Int × V} {c : Int × Int × Int} {x : Int} (hm : ∀ l, ModAt w (dx n l p q)) (hl : f ≤ 20000) (hr : runR (mdD n) ⟨f, s, h⟩ 0 [] [] = ([], o, c, x)) :
    Calls Try.prog 8 #[.agg #[.slice none 0 0, .slice (some ⟨p, 0, none⟩) 2 2, .slice (some ⟨q, 0, none⟩) 1 1, .int .i64 (-1)], .int .i64 0, .slice none 0 0, .slice none 0 0, .agg #[.int .i64 f, .int .i64 s, .int .i64 h]] w fun e W' => Ran w o c x e W' := by
  have hG : Given w (dx n ⟨f, s, h⟩ p q) none 0 0 [] none 0 [] none 0 [] := ⟨hm _, rfl, vs_none w, rfl, vs_none w, vs_none w, by decide, by decide, by decide⟩
  have k := run_any (ca := 0) (cb := 0) hG 0 hl
  have hr2 : runR (dx n ⟨f, s, h⟩ p q).m (dx n ⟨f, s, h⟩ p q).l 0 [] [] = ([], o, c, x) := hr
  rw [hr2] at k
  refine Calls.mono k ?_
  rintro e W' ⟨A, k, he, hb, -, -⟩
  exact ⟨A, k, he, hb⟩
theorem most_at (w : World) : Calls Try.prog 9 #[] w fun e w' => e = .returned (.agg #[.int .i64 20000, .int .i64 256, .int .i64 1024]) ∧ Below w.heap.size w w' := most_any w
def rL : Rr := ([(1, 17, 0)], (0, (1, 17, 0)), (23, 2, 0), 0)
theorem vok_n (n : Int) (h : I64 n) : VOk (1, n, 0) := ⟨by show (0 : Int) ≤ 1 ∧ (1 : Int) ≤ 255; decide, h, by show I64 0; unfold I64; decide⟩
theorem run_loop {W : World} {p q cb gb g : Nat} (P : Blk W p (vcs [(1, 3, 0)])) (C : Blk W cb (ics [(28, 4), (4, 0), (1, 0), (9, 0), (5, 0), (29, 0), (4, 0), (31, 0)]))
    (M : Blk W q [.slice none 0 0, .slice none 0 0, .int .u8 1, .bool false, .int .i64 0, .int .i64 0, .int .i64 0, .slice (some ⟨cb, 0, none⟩) 8 8]) (G : Blk W gb (vcs [(1, 5, 0)])) (A : Blk W g (vcs [(1, 5, 0)])) :
    Calls Try.prog 8 #[.agg #[.slice (some ⟨gb, 0, none⟩) 1 1, .slice (some ⟨p, 0, none⟩) 1 1, .slice (some ⟨q, 0, none⟩) 1 1, .int .i64 0], .int .i64 0, .slice none 0 0, .slice (some ⟨g, 0, none⟩) 1 1, .agg #[.int .i64 20000, .int .i64 256, .int .i64 1024]] W fun e W' => RunTo W rL e W' := by
  have h3 : ∀ v ∈ [((1 : Int), (3 : Int), (0 : Int))], VOk v := fun v hv => by obtain rfl := List.mem_singleton.1 hv; exact vok_n 3 (by unfold I64; decide)
  have h5 : ∀ v ∈ [((1 : Int), (5 : Int), (0 : Int))], VOk v := fun v hv => by obtain rfl := List.mem_singleton.1 hv; exact vok_n 5 (by unfold I64; decide)
  have hm : ModAt W ⟨mdL, ⟨20000, 256, 1024⟩, .slice (some ⟨gb, 0, none⟩) 1 1, some ⟨p, 0, none⟩, 1, 1, some ⟨q, 0, none⟩, 1, 1, 0, 0⟩ := mod_of (pool := [(1, 3, 0)]) (code := [(28, 4), (4, 0), (1, 0), (9, 0), (5, 0), (29, 0), (4, 0), (31, 0)]) (np := 1) (cp := 1) P h3 C (by
    intro x hx
    simp only [List.mem_cons, List.not_mem_nil, or_false] at hx
    rcases hx with rfl | rfl | rfl | rfl | rfl | rfl | rfl | rfl <;> exact ⟨by decide, by unfold I64; decide⟩) M rfl (by decide) rfl (by decide) [1] ⟨20000, 256, 1024⟩ (.slice (some ⟨gb, 0, none⟩) 1 1) 1 0
  have hG : Given W ⟨mdL, ⟨20000, 256, 1024⟩, .slice (some ⟨gb, 0, none⟩) 1 1, some ⟨p, 0, none⟩, 1, 1, some ⟨q, 0, none⟩, 1, 1, 0, 0⟩ (some ⟨gb, 0, none⟩) 1 1 [(1, 5, 0)] none 0 [] (some ⟨g, 0, none⟩) 1 [(1, 5, 0)] :=
    ⟨hm, rfl, vs_at G h5, rfl, vs_none W, vs_at A h5, by decide, by decide, by decide⟩
  have k := run_any (ca := 0) (cb := 1) hG 0 (show (20000 : Int) ≤ 20000 by decide)
  have hr2 : runR mdL ⟨20000, 256, 1024⟩ 0 [] [(1, 5, 0)] = rL := aw5
  rw [show (Sx.m ⟨mdL, ⟨20000, 256, 1024⟩, .slice (some ⟨gb, 0, none⟩) 1 1, some ⟨p, 0, none⟩, 1, 1, some ⟨q, 0, none⟩, 1, 1, 0, 0⟩) = mdL from rfl, show (Sx.l ⟨mdL, ⟨20000, 256, 1024⟩, .slice (some ⟨gb, 0, none⟩) 1 1, some ⟨p, 0, none⟩, 1, 1, some ⟨q, 0, none⟩, 1, 1, 0, 0⟩) = ⟨20000, 256, 1024⟩ from rfl, hr2] at k
  exact Calls.mono k fun e W' h => RunEnd.to h
theorem RC.loop {w0 V : World} {s9 s10 s11 s12 : Value} (h : RC w0 rL s9 s10 s11 s12 V) : ∃ g k g1 g2, s9 = .slice (some ⟨g, 0, none⟩) 1 k ∧ s10 = .pointer (some ⟨g1, 0, none⟩) ∧ s11 = .pointer (some ⟨g2, 0, none⟩) ∧ s12 = .int .i64 0 ∧ Below w0.heap.size w0 V ∧
    Blk V g [.int .u8 1, .int .i64 17, .int .i64 0] ∧ Blk V g1 [.int .i64 0, .int .u8 1, .int .i64 17, .int .i64 0] ∧ Blk V g2 [.int .i64 23, .int .i64 2, .int .i64 0] := by
  obtain ⟨A, k, g1, g2, e1, e2, e3, e4, hb, hg, b1, b2, -⟩ := h
  rcases hg with hg | ⟨g, e5, -, h3, -⟩
  · cases hg
  · rw [e5] at e1
    exact ⟨g, k, g1, g2, e1, e2, e3, e4, hb, h3, b1, b2⟩
set_option pp.maxSteps 1000000 in
set_option pp.deepTerms true in
set_option maxHeartbeats 4000000 in
theorem awake_ok (w : World) : Calls Try.prog 6 #[] w fun e w' => e = .returned (.bool true) ∧ Below w.heap.size w w' := by
  have HD := fun (n : Int) (hn : I64 n) (W : World) => Lib.hid (divides_any n hn W)
  have HM := fun (W : World) => Lib.hid (most_at W)
  have HN := fun (n : Int) (W : World) => Lib.hid (num_any n W)
  have H0 := Lib.hid (Below.refl w.heap.size w)
  go_enter Try.func6, Try.ntmps6
  go_wp2_with fail
  refine (HD 2 (by unfold I64; decide) _).out.mono ?_
  rintro e w1 ⟨p1, q1, rfl, hb, hm⟩
  have H1 := Lib.hid (below_next (H0.out) hb)
  clear H0
  clear hb
  have M1 := Lib.hid hm
  clear hm
  go_wp2_with fail
  refine (HM _).out.mono ?_
  rintro e w2 ⟨rfl, hb⟩
  have M2 := Lib.hid (fun l => (M1.out l).below hb)
  clear M1
  have H2 := Lib.hid (below_next (H1.out) hb)
  clear H1
  clear hb
  go_wp2_with fail
  refine (run_div M2.out (by decide) aw1).mono ?_
  rintro e w3 ⟨A3, k3, rfl, hb⟩
  dsimp only [zv]
  clear M2
  have H3 := Lib.hid (below_next (H2.out) hb)
  clear H2
  clear hb
  have BA := ((H3.out).alloc (H3.out).size (.cells #[.int .i64 0, .int .u8 1, .int .i64 3, .int .i64 0] 31)).alloc (by have := (H3.out).size; simp only [World.size_alloc]; omega) (.cells #[.int .i64 4, .int .i64 2, .int .i64 0] 33)
  have BO := (Blk.new w3 #[.int .i64 0, .int .u8 1, .int .i64 3, .int .i64 0] 31).alloc (.cells #[.int .i64 4, .int .i64 2, .int .i64 0] 33)
  have BC := Blk.new (w3.alloc (.cells #[.int .i64 0, .int .u8 1, .int .i64 3, .int .i64 0] 31)) #[.int .i64 4, .int .i64 2, .int .i64 0] 33
  simp only [World.size_alloc] at BC
  have HA3 := Lib.hid (And.intro (BA) (And.intro (BO) (BC)))
  clear H3
  clear BA BO BC
  go_wp2_with fail
  refine (HD 0 (by unfold I64; decide) _).out.mono ?_
  rintro e w4 ⟨p4, q4, rfl, hb, hm⟩
  have H4 := Lib.hid (And.intro (below_next (HA3.out.1) hb) (And.intro ((HA3.out.2.1).below hb) ((HA3.out.2.2).below hb)))
  clear HA3
  clear hb
  have M4 := Lib.hid hm
  clear hm
  go_wp2_with fail
  refine (HM _).out.mono ?_
  rintro e w5 ⟨rfl, hb⟩
  have M5 := Lib.hid (fun l => (M4.out l).below hb)
  clear M4
  have H5 := Lib.hid (And.intro (below_next (H4.out.1) hb) (And.intro ((H4.out.2.1).below hb) ((H4.out.2.2).below hb)))
  clear H4
  clear hb
  go_wp2_with fail
  refine (run_div M5.out (by decide) aw2).mono ?_
  rintro e w6 ⟨A6, k6, rfl, hb⟩
  dsimp only [zv]
  clear M5
  have H6 := Lib.hid (And.intro (below_next (H5.out.1) hb) (And.intro ((H5.out.2.1).below hb) ((H5.out.2.2).below hb)))
  clear H5
  clear hb
  have BA := ((H6.out.1).alloc (H6.out.1).size (.cells #[.int .i64 1, .int .u8 0, .int .i64 0, .int .i64 0] 31)).alloc (by have := (H6.out.1).size; simp only [World.size_alloc]; omega) (.cells #[.int .i64 3, .int .i64 2, .int .i64 0] 33)
  have BO := (Blk.new w6 #[.int .i64 1, .int .u8 0, .int .i64 0, .int .i64 0] 31).alloc (.cells #[.int .i64 3, .int .i64 2, .int .i64 0] 33)
  have BC := Blk.new (w6.alloc (.cells #[.int .i64 1, .int .u8 0, .int .i64 0, .int .i64 0] 31)) #[.int .i64 3, .int .i64 2, .int .i64 0] 33
  simp only [World.size_alloc] at BC
  have HA6 := Lib.hid (And.intro (BA) (And.intro (((H6.out.2.1).alloc (.cells #[.int .i64 1, .int .u8 0, .int .i64 0, .int .i64 0] 31)).alloc (.cells #[.int .i64 3, .int .i64 2, .int .i64 0] 33)) (And.intro (((H6.out.2.2).alloc (.cells #[.int .i64 1, .int .u8 0, .int .i64 0, .int .i64 0] 31)).alloc (.cells #[.int .i64 3, .int .i64 2, .int .i64 0] 33)) (And.intro (BO) (BC)))))
  clear H6
  clear BA BO BC
  go_wp2_with fail
  refine (HD 2 (by unfold I64; decide) _).out.mono ?_
  rintro e w7 ⟨p7, q7, rfl, hb, hm⟩
  have H7 := Lib.hid (And.intro (below_next (HA6.out.1) hb) (And.intro ((HA6.out.2.1).below hb) (And.intro ((HA6.out.2.2.1).below hb) (And.intro ((HA6.out.2.2.2.1).below hb) ((HA6.out.2.2.2.2).below hb)))))
  clear HA6
  clear hb
  have M7 := Lib.hid hm
  clear hm
  go_wp2_with fail
  refine (run_div M7.out (by decide) aw3).mono ?_
  rintro e w8 ⟨A8, k8, rfl, hb⟩
  dsimp only [zv]
  clear M7
  have H8 := Lib.hid (And.intro (below_next (H7.out.1) hb) (And.intro ((H7.out.2.1).below hb) (And.intro ((H7.out.2.2.1).below hb) (And.intro ((H7.out.2.2.2.1).below hb) ((H7.out.2.2.2.2).below hb)))))
  clear H7
  clear hb
  have BA := ((H8.out.1).alloc (H8.out.1).size (.cells #[.int .i64 0, .int .u8 0, .int .i64 0, .int .i64 0] 31)).alloc (by have := (H8.out.1).size; simp only [World.size_alloc]; omega) (.cells #[.int .i64 0, .int .i64 0, .int .i64 0] 33)
  have HA8 := Lib.hid (And.intro (BA) (And.intro (((H8.out.2.1).alloc (.cells #[.int .i64 0, .int .u8 0, .int .i64 0, .int .i64 0] 31)).alloc (.cells #[.int .i64 0, .int .i64 0, .int .i64 0] 33)) (And.intro (((H8.out.2.2.1).alloc (.cells #[.int .i64 0, .int .u8 0, .int .i64 0, .int .i64 0] 31)).alloc (.cells #[.int .i64 0, .int .i64 0, .int .i64 0] 33)) (And.intro (((H8.out.2.2.2.1).alloc (.cells #[.int .i64 0, .int .u8 0, .int .i64 0, .int .i64 0] 31)).alloc (.cells #[.int .i64 0, .int .i64 0, .int .i64 0] 33)) (((H8.out.2.2.2.2).alloc (.cells #[.int .i64 0, .int .u8 0, .int .i64 0, .int .i64 0] 31)).alloc (.cells #[.int .i64 0, .int .i64 0, .int .i64 0] 33))))))
  clear H8
  clear BA
  go_wp2_with fail
  refine (HD 2 (by unfold I64; decide) _).out.mono ?_
  rintro e w9 ⟨p9, q9, rfl, hb, hm⟩
  have H9 := Lib.hid (And.intro (below_next (HA8.out.1) hb) (And.intro ((HA8.out.2.1).below hb) (And.intro ((HA8.out.2.2.1).below hb) (And.intro ((HA8.out.2.2.2.1).below hb) ((HA8.out.2.2.2.2).below hb)))))
  clear HA8
  clear hb
  have M9 := Lib.hid hm
  clear hm
  go_wp2_with fail
  refine (run_div M9.out (by decide) aw4).mono ?_
  rintro e w10 ⟨A10, k10, rfl, hb⟩
  dsimp only [zv]
  clear M9
  have H10 := Lib.hid (And.intro (below_next (H9.out.1) hb) (And.intro ((H9.out.2.1).below hb) (And.intro ((H9.out.2.2.1).below hb) (And.intro ((H9.out.2.2.2.1).below hb) ((H9.out.2.2.2.2).below hb)))))
  clear H9
  clear hb
  have BA := ((H10.out.1).alloc (H10.out.1).size (.cells #[.int .i64 0, .int .u8 0, .int .i64 0, .int .i64 0] 31)).alloc (by have := (H10.out.1).size; simp only [World.size_alloc]; omega) (.cells #[.int .i64 0, .int .i64 0, .int .i64 0] 33)
  have HA10 := Lib.hid (And.intro (BA) (And.intro (((H10.out.2.1).alloc (.cells #[.int .i64 0, .int .u8 0, .int .i64 0, .int .i64 0] 31)).alloc (.cells #[.int .i64 0, .int .i64 0, .int .i64 0] 33)) (And.intro (((H10.out.2.2.1).alloc (.cells #[.int .i64 0, .int .u8 0, .int .i64 0, .int .i64 0] 31)).alloc (.cells #[.int .i64 0, .int .i64 0, .int .i64 0] 33)) (And.intro (((H10.out.2.2.2.1).alloc (.cells #[.int .i64 0, .int .u8 0, .int .i64 0, .int .i64 0] 31)).alloc (.cells #[.int .i64 0, .int .i64 0, .int .i64 0] 33)) (((H10.out.2.2.2.2).alloc (.cells #[.int .i64 0, .int .u8 0, .int .i64 0, .int .i64 0] 31)).alloc (.cells #[.int .i64 0, .int .i64 0, .int .i64 0] 33))))))
  clear H10
  clear BA
  go_wp2_with fail
  refine (HN 5 _).out.mono ?_
  rintro e w11 ⟨rfl, hb⟩
  have H11 := Lib.hid (And.intro (below_next (HA10.out.1) hb) (And.intro ((HA10.out.2.1).below hb) (And.intro ((HA10.out.2.2.1).below hb) (And.intro ((HA10.out.2.2.2.1).below hb) ((HA10.out.2.2.2.2).below hb)))))
  clear HA10
  clear hb
  have HG := Lib.hid (And.intro ((H11.out.1).alloc (H11.out.1).size (.cells #[.int .u8 1, .int .i64 5, .int .i64 0] 29)) (And.intro ((H11.out.2.1).alloc (.cells #[.int .u8 1, .int .i64 5, .int .i64 0] 29)) (And.intro ((H11.out.2.2.1).alloc (.cells #[.int .u8 1, .int .i64 5, .int .i64 0] 29)) (And.intro ((H11.out.2.2.2.1).alloc (.cells #[.int .u8 1, .int .i64 5, .int .i64 0] 29)) (And.intro ((H11.out.2.2.2.2).alloc (.cells #[.int .u8 1, .int .i64 5, .int .i64 0] 29)) (Blk.new w11 #[.int .u8 1, .int .i64 5, .int .i64 0] 29))))))
  clear H11
  go_wp2_with fail
  refine (HN 3 _).out.mono ?_
  rintro e w12 ⟨rfl, hb⟩
  have H12 := Lib.hid (And.intro (below_next (HG.out.1) hb) (And.intro ((HG.out.2.1).below hb) (And.intro ((HG.out.2.2.1).below hb) (And.intro ((HG.out.2.2.2.1).below hb) (And.intro ((HG.out.2.2.2.2.1).below hb) ((HG.out.2.2.2.2.2).below hb))))))
  clear HG
  clear hb
  obtain ⟨w13, hw13⟩ : ∃ V, (((w12.alloc (.cells #[.int .u8 1, .int .i64 3, .int .i64 0] 29)).alloc (.cells #[.int .u8 28, .int .i64 4, .int .i64 0, .int .u8 4, .int .i64 0, .int .i64 0, .int .u8 1, .int .i64 0, .int .i64 0, .int .u8 9, .int .i64 0, .int .i64 0, .int .u8 5, .int .i64 0, .int .i64 0, .int .u8 29, .int .i64 0, .int .i64 0, .int .u8 4, .int .i64 0, .int .i64 0, .int .u8 31, .int .i64 0, .int .i64 0] 46)).alloc (.cells #[.slice none 0 0, .slice none 0 0, .int .u8 1, .bool false, .int .i64 0, .int .i64 0, .int .i64 0, .slice (some ⟨w12.heap.size + 1, 0, none⟩) 8 8] 50)).alloc (.cells #[.slice (some ⟨w11.heap.size, 0, none⟩) 1 1, .slice (some ⟨w12.heap.size, 0, none⟩) 1 1, .slice (some ⟨w12.heap.size + 1 + 1, 0, none⟩) 1 1, .int .i64 0] 25) = V := ⟨_, rfl⟩
  have BA := ((((H12.out.1).alloc (by have := (H12.out.1).size; (try simp only [World.size_alloc]); omega) (.cells #[.int .u8 1, .int .i64 3, .int .i64 0] 29)).alloc (by have := (H12.out.1).size; (try simp only [World.size_alloc]); omega) (.cells #[.int .u8 28, .int .i64 4, .int .i64 0, .int .u8 4, .int .i64 0, .int .i64 0, .int .u8 1, .int .i64 0, .int .i64 0, .int .u8 9, .int .i64 0, .int .i64 0, .int .u8 5, .int .i64 0, .int .i64 0, .int .u8 29, .int .i64 0, .int .i64 0, .int .u8 4, .int .i64 0, .int .i64 0, .int .u8 31, .int .i64 0, .int .i64 0] 46)).alloc (by have := (H12.out.1).size; (try simp only [World.size_alloc]); omega) (.cells #[.slice none 0 0, .slice none 0 0, .int .u8 1, .bool false, .int .i64 0, .int .i64 0, .int .i64 0, .slice (some ⟨w12.heap.size + 1, 0, none⟩) 8 8] 50)).alloc (by have := (H12.out.1).size; (try simp only [World.size_alloc]); omega) (.cells #[.slice (some ⟨w11.heap.size, 0, none⟩) 1 1, .slice (some ⟨w12.heap.size, 0, none⟩) 1 1, .slice (some ⟨w12.heap.size + 1 + 1, 0, none⟩) 1 1, .int .i64 0] 25)
  have BP := (((Blk.new w12 #[.int .u8 1, .int .i64 3, .int .i64 0] 29).alloc (.cells #[.int .u8 28, .int .i64 4, .int .i64 0, .int .u8 4, .int .i64 0, .int .i64 0, .int .u8 1, .int .i64 0, .int .i64 0, .int .u8 9, .int .i64 0, .int .i64 0, .int .u8 5, .int .i64 0, .int .i64 0, .int .u8 29, .int .i64 0, .int .i64 0, .int .u8 4, .int .i64 0, .int .i64 0, .int .u8 31, .int .i64 0, .int .i64 0] 46)).alloc (.cells #[.slice none 0 0, .slice none 0 0, .int .u8 1, .bool false, .int .i64 0, .int .i64 0, .int .i64 0, .slice (some ⟨w12.heap.size + 1, 0, none⟩) 8 8] 50)).alloc (.cells #[.slice (some ⟨w11.heap.size, 0, none⟩) 1 1, .slice (some ⟨w12.heap.size, 0, none⟩) 1 1, .slice (some ⟨w12.heap.size + 1 + 1, 0, none⟩) 1 1, .int .i64 0] 25)
  have BC := ((Blk.new (w12.alloc (.cells #[.int .u8 1, .int .i64 3, .int .i64 0] 29)) #[.int .u8 28, .int .i64 4, .int .i64 0, .int .u8 4, .int .i64 0, .int .i64 0, .int .u8 1, .int .i64 0, .int .i64 0, .int .u8 9, .int .i64 0, .int .i64 0, .int .u8 5, .int .i64 0, .int .i64 0, .int .u8 29, .int .i64 0, .int .i64 0, .int .u8 4, .int .i64 0, .int .i64 0, .int .u8 31, .int .i64 0, .int .i64 0] 46).alloc (.cells #[.slice none 0 0, .slice none 0 0, .int .u8 1, .bool false, .int .i64 0, .int .i64 0, .int .i64 0, .slice (some ⟨w12.heap.size + 1, 0, none⟩) 8 8] 50)).alloc (.cells #[.slice (some ⟨w11.heap.size, 0, none⟩) 1 1, .slice (some ⟨w12.heap.size, 0, none⟩) 1 1, .slice (some ⟨w12.heap.size + 1 + 1, 0, none⟩) 1 1, .int .i64 0] 25)
  have BM := (Blk.new ((w12.alloc (.cells #[.int .u8 1, .int .i64 3, .int .i64 0] 29)).alloc (.cells #[.int .u8 28, .int .i64 4, .int .i64 0, .int .u8 4, .int .i64 0, .int .i64 0, .int .u8 1, .int .i64 0, .int .i64 0, .int .u8 9, .int .i64 0, .int .i64 0, .int .u8 5, .int .i64 0, .int .i64 0, .int .u8 29, .int .i64 0, .int .i64 0, .int .u8 4, .int .i64 0, .int .i64 0, .int .u8 31, .int .i64 0, .int .i64 0] 46)) #[.slice none 0 0, .slice none 0 0, .int .u8 1, .bool false, .int .i64 0, .int .i64 0, .int .i64 0, .slice (some ⟨w12.heap.size + 1, 0, none⟩) 8 8] 50).alloc (.cells #[.slice (some ⟨w11.heap.size, 0, none⟩) 1 1, .slice (some ⟨w12.heap.size, 0, none⟩) 1 1, .slice (some ⟨w12.heap.size + 1 + 1, 0, none⟩) 1 1, .int .i64 0] 25)
  have BD := Blk.new (((w12.alloc (.cells #[.int .u8 1, .int .i64 3, .int .i64 0] 29)).alloc (.cells #[.int .u8 28, .int .i64 4, .int .i64 0, .int .u8 4, .int .i64 0, .int .i64 0, .int .u8 1, .int .i64 0, .int .i64 0, .int .u8 9, .int .i64 0, .int .i64 0, .int .u8 5, .int .i64 0, .int .i64 0, .int .u8 29, .int .i64 0, .int .i64 0, .int .u8 4, .int .i64 0, .int .i64 0, .int .u8 31, .int .i64 0, .int .i64 0] 46)).alloc (.cells #[.slice none 0 0, .slice none 0 0, .int .u8 1, .bool false, .int .i64 0, .int .i64 0, .int .i64 0, .slice (some ⟨w12.heap.size + 1, 0, none⟩) 8 8] 50)) #[.slice (some ⟨w11.heap.size, 0, none⟩) 1 1, .slice (some ⟨w12.heap.size, 0, none⟩) 1 1, .slice (some ⟨w12.heap.size + 1 + 1, 0, none⟩) 1 1, .int .i64 0] 25
  simp only [World.size_alloc] at BC BM BD
  have F1 := ((((H12.out.2.1).alloc (.cells #[.int .u8 1, .int .i64 3, .int .i64 0] 29)).alloc (.cells #[.int .u8 28, .int .i64 4, .int .i64 0, .int .u8 4, .int .i64 0, .int .i64 0, .int .u8 1, .int .i64 0, .int .i64 0, .int .u8 9, .int .i64 0, .int .i64 0, .int .u8 5, .int .i64 0, .int .i64 0, .int .u8 29, .int .i64 0, .int .i64 0, .int .u8 4, .int .i64 0, .int .i64 0, .int .u8 31, .int .i64 0, .int .i64 0] 46)).alloc (.cells #[.slice none 0 0, .slice none 0 0, .int .u8 1, .bool false, .int .i64 0, .int .i64 0, .int .i64 0, .slice (some ⟨w12.heap.size + 1, 0, none⟩) 8 8] 50)).alloc (.cells #[.slice (some ⟨w11.heap.size, 0, none⟩) 1 1, .slice (some ⟨w12.heap.size, 0, none⟩) 1 1, .slice (some ⟨w12.heap.size + 1 + 1, 0, none⟩) 1 1, .int .i64 0] 25)
  have F2 := ((((H12.out.2.2.1).alloc (.cells #[.int .u8 1, .int .i64 3, .int .i64 0] 29)).alloc (.cells #[.int .u8 28, .int .i64 4, .int .i64 0, .int .u8 4, .int .i64 0, .int .i64 0, .int .u8 1, .int .i64 0, .int .i64 0, .int .u8 9, .int .i64 0, .int .i64 0, .int .u8 5, .int .i64 0, .int .i64 0, .int .u8 29, .int .i64 0, .int .i64 0, .int .u8 4, .int .i64 0, .int .i64 0, .int .u8 31, .int .i64 0, .int .i64 0] 46)).alloc (.cells #[.slice none 0 0, .slice none 0 0, .int .u8 1, .bool false, .int .i64 0, .int .i64 0, .int .i64 0, .slice (some ⟨w12.heap.size + 1, 0, none⟩) 8 8] 50)).alloc (.cells #[.slice (some ⟨w11.heap.size, 0, none⟩) 1 1, .slice (some ⟨w12.heap.size, 0, none⟩) 1 1, .slice (some ⟨w12.heap.size + 1 + 1, 0, none⟩) 1 1, .int .i64 0] 25)
  have F3 := ((((H12.out.2.2.2.1).alloc (.cells #[.int .u8 1, .int .i64 3, .int .i64 0] 29)).alloc (.cells #[.int .u8 28, .int .i64 4, .int .i64 0, .int .u8 4, .int .i64 0, .int .i64 0, .int .u8 1, .int .i64 0, .int .i64 0, .int .u8 9, .int .i64 0, .int .i64 0, .int .u8 5, .int .i64 0, .int .i64 0, .int .u8 29, .int .i64 0, .int .i64 0, .int .u8 4, .int .i64 0, .int .i64 0, .int .u8 31, .int .i64 0, .int .i64 0] 46)).alloc (.cells #[.slice none 0 0, .slice none 0 0, .int .u8 1, .bool false, .int .i64 0, .int .i64 0, .int .i64 0, .slice (some ⟨w12.heap.size + 1, 0, none⟩) 8 8] 50)).alloc (.cells #[.slice (some ⟨w11.heap.size, 0, none⟩) 1 1, .slice (some ⟨w12.heap.size, 0, none⟩) 1 1, .slice (some ⟨w12.heap.size + 1 + 1, 0, none⟩) 1 1, .int .i64 0] 25)
  have F4 := ((((H12.out.2.2.2.2.1).alloc (.cells #[.int .u8 1, .int .i64 3, .int .i64 0] 29)).alloc (.cells #[.int .u8 28, .int .i64 4, .int .i64 0, .int .u8 4, .int .i64 0, .int .i64 0, .int .u8 1, .int .i64 0, .int .i64 0, .int .u8 9, .int .i64 0, .int .i64 0, .int .u8 5, .int .i64 0, .int .i64 0, .int .u8 29, .int .i64 0, .int .i64 0, .int .u8 4, .int .i64 0, .int .i64 0, .int .u8 31, .int .i64 0, .int .i64 0] 46)).alloc (.cells #[.slice none 0 0, .slice none 0 0, .int .u8 1, .bool false, .int .i64 0, .int .i64 0, .int .i64 0, .slice (some ⟨w12.heap.size + 1, 0, none⟩) 8 8] 50)).alloc (.cells #[.slice (some ⟨w11.heap.size, 0, none⟩) 1 1, .slice (some ⟨w12.heap.size, 0, none⟩) 1 1, .slice (some ⟨w12.heap.size + 1 + 1, 0, none⟩) 1 1, .int .i64 0] 25)
  have F5 := ((((H12.out.2.2.2.2.2).alloc (.cells #[.int .u8 1, .int .i64 3, .int .i64 0] 29)).alloc (.cells #[.int .u8 28, .int .i64 4, .int .i64 0, .int .u8 4, .int .i64 0, .int .i64 0, .int .u8 1, .int .i64 0, .int .i64 0, .int .u8 9, .int .i64 0, .int .i64 0, .int .u8 5, .int .i64 0, .int .i64 0, .int .u8 29, .int .i64 0, .int .i64 0, .int .u8 4, .int .i64 0, .int .i64 0, .int .u8 31, .int .i64 0, .int .i64 0] 46)).alloc (.cells #[.slice none 0 0, .slice none 0 0, .int .u8 1, .bool false, .int .i64 0, .int .i64 0, .int .i64 0, .slice (some ⟨w12.heap.size + 1, 0, none⟩) 8 8] 50)).alloc (.cells #[.slice (some ⟨w11.heap.size, 0, none⟩) 1 1, .slice (some ⟨w12.heap.size, 0, none⟩) 1 1, .slice (some ⟨w12.heap.size + 1 + 1, 0, none⟩) 1 1, .int .i64 0] 25)
  rw [hw13] at BA BP BC BM BD F1 F2 F3 F4 F5
  have HB13 := Lib.hid (And.intro (BA) (And.intro (F1) (And.intro (F2) (And.intro (F3) (And.intro (F4) (And.intro (F5) (And.intro (BP) (And.intro (BC) (And.intro (BM) (BD))))))))))
  clear H12
  clear BA BP BC BM BD F1 F2 F3 F4 F5
  have W13 := Lib.hid hw13
  clear hw13
  go_upto_region 6 with fail
  rw [W13.out]
  clear W13
  go_cut [18, 19, 20, 21] (fun s18 s19 s20 s21 wx => RC w13 rL s18 s19 s20 s21 wx)
  case first =>
    as_aux_lemma =>
      refine wp_region_J (by kernel_rfl) (by kernel_rfl) (fun L a V => ∃ A k g1 g2 x0 x1 x2 x3 y0 y1 y2 vc vm v0 v1 v2 v3 va vb vu vv pp0 pp1 pp2 pp3, a = { tmps := #[.bool false, .slice A3 0 k3, .pointer (some ⟨w3.heap.size, 0, none⟩), .pointer (some ⟨w3.heap.size + 1, 0, none⟩), .int .i64 0, .slice A6 0 k6, .pointer (some ⟨w6.heap.size, 0, none⟩), .pointer (some ⟨w6.heap.size + 1, 0, none⟩), .int .i64 0, .slice A8 0 k8, .pointer (some ⟨w8.heap.size, 0, none⟩), .pointer (some ⟨w8.heap.size + 1, 0, none⟩), .int .i64 170, .slice A10 0 k10, .pointer (some ⟨w10.heap.size, 0, none⟩), .pointer (some ⟨w10.heap.size + 1, 0, none⟩), .int .i64 101, .pointer (some ⟨w12.heap.size + 1 + 1 + 1, 0, none⟩), vu, va, vb, vv, .tuple #[.slice A3 0 k3, .agg #[.int .i64 0, .int .u8 1, .int .i64 3, .int .i64 0], .agg #[.int .i64 4, .int .i64 2, .int .i64 0], .int .i64 0], .agg #[.slice none 0 0, .slice (some ⟨p1, 0, none⟩) 2 2, .slice (some ⟨q1, 0, none⟩) 1 1, .int .i64 (-1)], .agg #[.int .i64 20000, .int .i64 256, .int .i64 1024], .tuple #[.slice A3 0 k3, .agg #[.int .i64 0, .int .u8 1, .int .i64 3, .int .i64 0], .agg #[.int .i64 4, .int .i64 2, .int .i64 0], .int .i64 0], .slice A3 0 k3, .agg #[.int .i64 0, .int .u8 1, .int .i64 3, .int .i64 0], .agg #[.int .i64 4, .int .i64 2, .int .i64 0], .int .i64 0, .tuple #[.slice A6 0 k6, .agg #[.int .i64 1, .int .u8 0, .int .i64 0, .int .i64 0], .agg #[.int .i64 3, .int .i64 2, .int .i64 0], .int .i64 0], .agg #[.slice none 0 0, .slice (some ⟨p4, 0, none⟩) 2 2, .slice (some ⟨q4, 0, none⟩) 1 1, .int .i64 (-1)], .agg #[.int .i64 20000, .int .i64 256, .int .i64 1024], .tuple #[.slice A6 0 k6, .agg #[.int .i64 1, .int .u8 0, .int .i64 0, .int .i64 0], .agg #[.int .i64 3, .int .i64 2, .int .i64 0], .int .i64 0], .slice A6 0 k6, .agg #[.int .i64 1, .int .u8 0, .int .i64 0, .int .i64 0], .agg #[.int .i64 3, .int .i64 2, .int .i64 0], .int .i64 0, .tuple #[.slice A8 0 k8, .agg #[.int .i64 0, .int .u8 0, .int .i64 0, .int .i64 0], .agg #[.int .i64 0, .int .i64 0, .int .i64 0], .int .i64 170], .agg #[.slice none 0 0, .slice (some ⟨p7, 0, none⟩) 2 2, .slice (some ⟨q7, 0, none⟩) 1 1, .int .i64 (-1)], .agg #[.int .i64 3, .int .i64 9, .int .i64 0], .tuple #[.slice A8 0 k8, .agg #[.int .i64 0, .int .u8 0, .int .i64 0, .int .i64 0], .agg #[.int .i64 0, .int .i64 0, .int .i64 0], .int .i64 170], .slice A8 0 k8, .agg #[.int .i64 0, .int .u8 0, .int .i64 0, .int .i64 0], .agg #[.int .i64 0, .int .i64 0, .int .i64 0], .int .i64 170, .tuple #[.slice A10 0 k10, .agg #[.int .i64 0, .int .u8 0, .int .i64 0, .int .i64 0], .agg #[.int .i64 0, .int .i64 0, .int .i64 0], .int .i64 101], .agg #[.slice none 0 0, .slice (some ⟨p9, 0, none⟩) 2 2, .slice (some ⟨q9, 0, none⟩) 1 1, .int .i64 (-1)], .agg #[.int .i64 4, .int .i64 1, .int .i64 0], .tuple #[.slice A10 0 k10, .agg #[.int .i64 0, .int .u8 0, .int .i64 0, .int .i64 0], .agg #[.int .i64 0, .int .i64 0, .int .i64 0], .int .i64 101], .slice A10 0 k10, .agg #[.int .i64 0, .int .u8 0, .int .i64 0, .int .i64 0], .agg #[.int .i64 0, .int .i64 0, .int .i64 0], .int .i64 101, .agg #[.int .u8 1, .int .i64 5, .int .i64 0], .slice (some ⟨w11.heap.size, 0, none⟩) 1 1, .agg #[.int .u8 1, .int .i64 3, .int .i64 0], .slice (some ⟨w12.heap.size, 0, none⟩) 1 1, .agg #[.int .u8 28, .int .i64 4, .int .i64 0], .agg #[.int .u8 4, .int .i64 0, .int .i64 0], .agg #[.int .u8 1, .int .i64 0, .int .i64 0], .agg #[.int .u8 9, .int .i64 0, .int .i64 0], .agg #[.int .u8 5, .int .i64 0, .int .i64 0], .agg #[.int .u8 29, .int .i64 0, .int .i64 0], .agg #[.int .u8 4, .int .i64 0, .int .i64 0], .agg #[.int .u8 31, .int .i64 0, .int .i64 0], .slice (some ⟨w12.heap.size + 1, 0, none⟩) 8 8, .agg #[.slice none 0 0, .slice none 0 0, .int .u8 1, .bool false, .int .i64 0, .int .i64 0, .int .i64 0, .slice (some ⟨w12.heap.size + 1, 0, none⟩) 8 8], .slice (some ⟨w12.heap.size + 1 + 1, 0, none⟩) 1 1, .agg #[.slice (some ⟨w11.heap.size, 0, none⟩) 1 1, .slice (some ⟨w12.heap.size, 0, none⟩) 1 1, .slice (some ⟨w12.heap.size + 1 + 1, 0, none⟩) 1 1, .int .i64 0], vm, pp0, pp1, pp2, pp3, vc, v0, v1, v2, v3, undef, undef, undef, undef, undef, undef, undef, undef, undef, undef, undef, undef, undef, undef, undef, undef, undef, undef, undef, undef, undef, undef, undef, undef, undef, undef, undef, undef, undef, undef, undef, undef, undef, undef, undef, undef, undef, undef, undef, undef, undef, undef, undef, undef, undef, undef, undef, undef, undef, undef, undef, undef, undef, undef, undef, undef, undef, undef, undef, undef, undef, undef], defers := [] } ∧ RJ w13 rL (L 4) (L 5) (L 6) (L 7) (L 8) (L 9) (L 10) (L 11) (L 13) (L 14) (L 12) (L 15) A k g1 g2 x0 x1 x2 x3 y0 y1 y2 vc vm v0 v1 v2 v3 va vb vu vv V ∧ PJ (.agg #[.slice (some ⟨w11.heap.size, 0, none⟩) 1 1, .slice (some ⟨w12.heap.size, 0, none⟩) 1 1, .slice (some ⟨w12.heap.size + 1 + 1, 0, none⟩) 1 1, .int .i64 0]) (L 0) (L 1) (L 2) (L 3) (L 4) pp0 pp1 pp2 pp3 V) ?_ ?_ ?_
      · exact ⟨none, 0, 0, 0, undef, undef, undef, undef, undef, undef, undef, undef, undef, undef, undef, undef, undef, undef, undef, undef, undef, undef, undef, undef, undef, rfl, RJ.none _ _ _ _ _ _ _ _ _ _ _ _ _ _ _ _ _ _ _ _ _ _ _, ⟨nofun, nofun, nofun, nofun⟩⟩
      · intro L a V i o hJ hL ho hdep K' hK
        obtain ⟨A, k, g1, g2, x0, x1, x2, x3, y0, y1, y2, vc, vm, v0, v1, v2, v3, va, vb, vu, vv, pp0, pp1, pp2, pp3, rfl, h, hp⟩ := hJ
        have HK := Lib.hid hK
        clear hK
        have hlen := (Array.getElem?_eq_some_iff.1 ho).1
        match i, ho, hL, hlen with
        | 0, ho, hL, _ =>
          obtain rfl := Option.some.inj ho
          clear ho
          have Bd := (HB13.out.2.2.2.2.2.2.2.2.2).below h.b
          have d0 := Bd.c 0 _ rfl
          have d1 := Bd.c 1 _ rfl
          have d2 := Bd.c 2 _ rfl
          have d3 := Bd.c 3 _ rfl
          clear Bd hdep
          go_simp
          exact HK.out _ _ ⟨_, _, _, _, _, _, _, _, _, _, _, _, _, _, _, _, _, _, _, _, _, _, _, _, _, rfl, h, ⟨fun _ => rfl, hp.2.1, hp.2.2.1, hp.2.2.2⟩⟩
        | 1, ho, hL, _ =>
          obtain rfl := Option.some.inj ho
          clear ho
          clear hdep
          go_simp
          refine (HN 5 _).out.mono ?_
          rintro e V' ⟨rfl, hb⟩
          go_simp
          exact HK.out _ _ ⟨_, _, _, _, _, _, _, _, _, _, _, _, _, _, _, _, _, _, _, _, _, _, _, _, _, rfl, (h.pre hb), ⟨hp.1, fun _ => rfl, (hp.pre hb).2.2.1, hp.2.2.2⟩⟩
        | 2, ho, hL, _ =>
          obtain rfl := Option.some.inj ho
          clear ho
          have q1 : L 1 = true := hdep ⟨1, .data⟩ (by simp) rfl
          clear hdep
          obtain rfl := hp.2.1 q1
          go_simp
          exact HK.out _ _ ⟨_, _, _, _, _, _, _, _, _, _, _, _, _, _, _, _, _, _, _, _, _, _, _, _, _, rfl, (h.pre ((Below.refl _ V).alloc (Nat.le_refl _) _)), ⟨hp.1, hp.2.1, fun _ _ => ⟨_, rfl, Blk.new V #[.int .u8 1, .int .i64 5, .int .i64 0] 29⟩, hp.2.2.2⟩⟩
        | 3, ho, hL, _ =>
          obtain rfl := Option.some.inj ho
          clear ho
          clear hdep
          go_simp
          refine (HM _).out.mono ?_
          rintro e V' ⟨rfl, hb⟩
          go_simp
          exact HK.out _ _ ⟨_, _, _, _, _, _, _, _, _, _, _, _, _, _, _, _, _, _, _, _, _, _, _, _, _, rfl, (h.pre hb), ⟨hp.1, hp.2.1, (hp.pre hb).2.2.1, fun _ => rfl⟩⟩
        | 4, ho, hL, _ =>
          obtain rfl := Option.some.inj ho
          clear ho
          have q0 : L 0 = true := hdep ⟨0, .data⟩ (by simp) rfl
          have q2 : L 2 = true := hdep ⟨2, .data⟩ (by simp) rfl
          have q3 : L 3 = true := hdep ⟨3, .data⟩ (by simp) rfl
          clear hdep
          obtain rfl := hp.1 q0
          obtain ⟨g, rfl, hg⟩ := hp.2.2.1 q2 hL
          obtain rfl := hp.2.2.2 q3
          go_simp
          refine (run_loop ((HB13.out.2.2.2.2.2.2.1).below h.b) ((HB13.out.2.2.2.2.2.2.2.1).below h.b) ((HB13.out.2.2.2.2.2.2.2.2.1).below h.b) ((HB13.out.2.2.2.2.2.1).below h.b) hg).mono ?_
          rintro e V' ⟨A', k', rfl, hb, hgl⟩
          go_simp
          exact HK.out _ _ ⟨_, _, _, _, _, _, _, _, _, _, _, _, _, _, _, _, _, _, _, _, _, _, _, _, _, rfl, (h.call' hL hb hgl), ⟨hp.1, hp.2.1, (fun _ q => Bool.noConfusion q), hp.2.2.2⟩⟩
        | 5, ho, hL, _ =>
          obtain rfl := Option.some.inj ho
          clear ho
          have q4 : L 4 = true := hdep ⟨4, .data⟩ (by simp) rfl
          clear hdep
          obtain rfl := (h.c q4).1
          go_simp
          exact HK.out _ _ ⟨_, _, _, _, _, _, _, _, _, _, _, _, _, _, _, _, _, _, _, _, _, _, _, _, _, rfl, h.mv' q4, hp⟩
        | 6, ho, hL, _ =>
          obtain rfl := Option.some.inj ho
          clear ho
          have q5 : L 5 = true := hdep ⟨5, .data⟩ (by simp) rfl
          clear hdep
          obtain rfl := (h.m q5).2
          unfold rtup
          go_simp
          exact HK.out _ _ ⟨_, _, _, _, _, _, _, _, _, _, _, _, _, _, _, _, _, _, _, _, _, _, _, _, _, rfl, (h.part0' q5), hp⟩
        | 7, ho, hL, _ =>
          obtain rfl := Option.some.inj ho
          clear ho
          have q5 : L 5 = true := hdep ⟨5, .data⟩ (by simp) rfl
          clear hdep
          obtain rfl := (h.m q5).2
          unfold rtup
          go_simp
          exact HK.out _ _ ⟨_, _, _, _, _, _, _, _, _, _, _, _, _, _, _, _, _, _, _, _, _, _, _, _, _, rfl, h.part1, hp⟩
        | 8, ho, hL, _ =>
          obtain rfl := Option.some.inj ho
          clear ho
          have q5 : L 5 = true := hdep ⟨5, .data⟩ (by simp) rfl
          clear hdep
          obtain rfl := (h.m q5).2
          unfold rtup
          go_simp
          exact HK.out _ _ ⟨_, _, _, _, _, _, _, _, _, _, _, _, _, _, _, _, _, _, _, _, _, _, _, _, _, rfl, h.part2, hp⟩
        | 9, ho, hL, _ =>
          obtain rfl := Option.some.inj ho
          clear ho
          have q5 : L 5 = true := hdep ⟨5, .data⟩ (by simp) rfl
          clear hdep
          obtain rfl := (h.m q5).2
          unfold rtup
          go_simp
          exact HK.out _ _ ⟨_, _, _, _, _, _, _, _, _, _, _, _, _, _, _, _, _, _, _, _, _, _, _, _, _, rfl, h.part3, hp⟩
        | 10, ho, hL, _ =>
          obtain rfl := Option.some.inj ho
          clear ho
          clear hdep
          go_simp
          exact HK.out _ _ ⟨_, _, _, _, _, _, _, _, _, _, _, _, _, _, _, _, _, _, _, _, _, _, _, _, _, rfl, (h.al1' hL _ _ _ _ _), (hp.pre ((Below.refl _ V).alloc (Nat.le_refl _) _))⟩
        | 11, ho, hL, _ =>
          obtain rfl := Option.some.inj ho
          clear ho
          clear hdep
          go_simp
          exact HK.out _ _ ⟨_, _, _, _, _, _, _, _, _, _, _, _, _, _, _, _, _, _, _, _, _, _, _, _, _, rfl, (h.al2' hL _ _ _ _), (hp.pre ((Below.refl _ V).alloc (Nat.le_refl _) _))⟩
        | 12, ho, hL, _ =>
          obtain rfl := Option.some.inj ho
          clear ho
          have q6 : L 6 = true := hdep ⟨6, .data⟩ (by simp) rfl
          clear hdep
          obtain rfl := (h.e0 q6).2
          go_simp
          exact HK.out _ _ ⟨_, _, _, _, _, _, _, _, _, _, _, _, _, _, _, _, _, _, _, _, _, _, _, _, _, rfl, (h.as1' q6), hp⟩
        | 13, ho, hL, _ =>
          obtain rfl := Option.some.inj ho
          clear ho
          have q10 : L 10 = true := hdep ⟨10, .data⟩ (by simp) rfl
          have q7 : L 7 = true := hdep ⟨7, .data⟩ (by simp) rfl
          have q4 : L 4 = true := hdep ⟨4, .phase⟩ (by simp) rfl
          clear hdep
          obtain rfl := h.e1 q7
          obtain ⟨ea, -, hb, -⟩ := h.a q10
          subst ea
          have d0 := hb.c 0 _ rfl
          have d1 := hb.c 1 _ rfl
          have d2 := hb.c 2 _ rfl
          have d3 := hb.c 3 _ rfl
          have df := hb.f
          have dl := hb.l
          clear hb
          unfold oagg
          go_simp
          exact HK.out _ _ ⟨_, _, _, _, _, _, _, _, _, _, _, _, _, _, _, _, _, _, _, _, _, _, _, _, _, rfl, (h.st1' q4 q10), (hp.any q4 _)⟩
        | 14, ho, hL, _ =>
          obtain rfl := Option.some.inj ho
          clear ho
          have q11 : L 11 = true := hdep ⟨11, .data⟩ (by simp) rfl
          have q8 : L 8 = true := hdep ⟨8, .data⟩ (by simp) rfl
          have q4 : L 4 = true := hdep ⟨4, .phase⟩ (by simp) rfl
          clear hdep
          obtain rfl := h.e2 q8
          obtain ⟨eb, -, hb⟩ := h.bb q11
          subst eb
          have d0 := hb.c 0 _ rfl
          have d1 := hb.c 1 _ rfl
          have d2 := hb.c 2 _ rfl
          have df := hb.f
          have dl := hb.l
          clear hb
          unfold cagg
          go_simp
          exact HK.out _ _ ⟨_, _, _, _, _, _, _, _, _, _, _, _, _, _, _, _, _, _, _, _, _, _, _, _, _, rfl, (h.st2' q4 q11), (hp.any q4 _)⟩
        | 15, ho, hL, _ =>
          obtain rfl := Option.some.inj ho
          clear ho
          have q9 : L 9 = true := hdep ⟨9, .data⟩ (by simp) rfl
          clear hdep
          obtain rfl := h.e3 q9
          go_simp
          exact HK.out _ _ ⟨_, _, _, _, _, _, _, _, _, _, _, _, _, _, _, _, _, _, _, _, _, _, _, _, _, rfl, h.as2, hp⟩
        | _ + 16, ho, hL, hlen => exact absurd hlen (by simp)
      · intro L a V hJ hall
        obtain ⟨A, k, g1, g2, x0, x1, x2, x3, y0, y1, y2, vc, vm, v0, v1, v2, v3, va, vb, vu, vv, pp0, pp1, pp2, pp3, rfl, h, hp⟩ := hJ
        have q : ∀ i, i < 16 → L i = true := fun i hi => hall i hi
        have FIN := h.fin (q 4 (by decide)) (q 10 (by decide)) (q 11 (by decide)) (q 13 (by decide)) (q 14 (by decide)) (q 12 (by decide)) (q 15 (by decide))
        clear h hp hall q
        dsimp only
        go_wp2_with fail
        go_meet
        exact FIN
  case rest =>
    as_aux_lemma =>
      obtain ⟨g, k, g1, g2, rfl, rfl, rfl, rfl, hb, Bg, B1, B2⟩ := RC.loop hcut
      have O3 := (HB13.out.2.1).below hb
      have C3 := (HB13.out.2.2.1).below hb
      have O6 := (HB13.out.2.2.2.1).below hb
      have C6 := (HB13.out.2.2.2.2.1).below hb
      have a0 := cell_regrown (O3.c 0 _ rfl)
      have a1 := cell_regrown (O3.c 1 _ rfl)
      have a2 := cell_regrown (O3.c 2 _ rfl)
      have a3 := cell_regrown (O3.c 3 _ rfl)
      have b0 := cell_regrown (C3.c 0 _ rfl)
      have b1 := cell_regrown (C3.c 1 _ rfl)
      have b2 := cell_regrown (C3.c 2 _ rfl)
      have c0 := cell_regrown (O6.c 0 _ rfl)
      have c1 := cell_regrown (O6.c 1 _ rfl)
      have c2 := cell_regrown (O6.c 2 _ rfl)
      have c3 := cell_regrown (O6.c 3 _ rfl)
      have d0 := cell_regrown (C6.c 0 _ rfl)
      have u1 := cell_regrown (Bg.c 1 _ rfl)
      have v2 := cell_regrown (B1.c 2 _ rfl)
      have z0 := cell_regrown (B2.c 0 _ rfl)
      have cN : ∀ d os, Calls Try.prog 12 #[.int .i64 3] (Go.Sort.grow (redrawn wc d) os) fun e w'' => e = .returned (.agg #[.int .u8 1, .int .i64 3, .int .i64 0]) ∧ ∃ p : Regrown, w'' = Go.Sort.grow (redrawn wc p.d) p.os :=
        fun d os => Calls.regrown_of ((HN 3 _).out)
      have CN := Lib.hid cN
      have HE := Lib.hid (below_next (HB13.out.1) hb)
      have e1 := fun W => out_eql 0 1 3 0 0 1 3 0 W true rfl
      have e2 := fun W => cert_eql 4 2 0 4 2 0 W true rfl
      have e3 := fun W => out_eql 1 0 0 0 1 0 0 0 W true rfl
      clear O3 C3 O6 C6 Bg B1 B2 cN hb
      go_upto_region 7 with fail
      refine wp_region_quiet_below (by kernel_rfl) (by kernel_rfl) ?_
      repeat (first | go_big_quiet_step (first | exact CN.out _ _) | quiet_step (first | exact CN.out _ _))
      refine wpQuiet_nil ?_
      intro _ hw'
      obtain ⟨⟨dq, osq⟩, hw''⟩ := hw'
      subst hw''
      go_wp2_with fail
      go_ret
      exact ⟨rfl, below_next HE.out (below_regrown wc dq osq)⟩
end
#print axioms run_loop
#print axioms RC
#print axioms awake_ok
end Go.Proofs.Ytkhgpeejmbfmjaa
