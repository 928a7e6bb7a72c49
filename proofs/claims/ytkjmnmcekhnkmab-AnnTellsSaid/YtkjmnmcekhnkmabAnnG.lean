/- Announcements (package ann): the chapter's example (awake of the law's package). -/
import Derived.Test.YtkjmnmcekhnkmabAnnE
import Derived.Test.YtkjmnmcekhnkmabRegJ
namespace Go.Proofs.Ytkjmnmcekhnkmab
open Go.RowKit Go.Shelf
set_option linter.unusedSimpArgs false
set_option linter.unusedVariables false

theorem opIn_nil (n : Nat) (W : World) : OpIn n W none 0 none 0 [] [] :=
  ⟨fun _ => rfl, fun _ => rfl, by omega, by omega, rfl, rfl, fun u hu => by simp at hu, fun u hu => by simp at hu, fun j hj => by simp at hj, fun j hj => by simp at hj⟩

/-- What an entry that was put forward starts with. -/
def Put (W : World) (pr sq k : Int) (e : Ending) (w' : World) : Prop :=
  ∃ A1 c1 B1 c2, e = .returned (.agg #[.int .i64 pr, .int .i64 sq, .int .u8 k, .int .i64 0, .slice A1 0 c1, .slice B1 0 c2]) ∧ Below W.heap.size W w'

theorem aw_ints {W : World} {g : Nat} {a b c : Int} (h0 : W.cell? ⟨g, 0, none⟩ = some (.int .i64 a)) (h1 : W.cell? ⟨g, 1, none⟩ = some (.int .i64 b)) (h2 : W.cell? ⟨g, 2, none⟩ = some (.int .i64 c)) : IntsAt W.heap.size W (some ⟨g, 0, none⟩) [a, b, c] := by
  intro j hj
  have hg : g < W.heap.size := World.block_lt_of_cell? W ⟨g, 0, none⟩ h0
  match j, hj with
  | 0, _ => exact ⟨g, 0, rfl, hg, h0⟩
  | 1, _ => exact ⟨g, 0, rfl, hg, h1⟩
  | 2, _ => exact ⟨g, 0, rfl, hg, h2⟩

theorem aw_one {W : World} {g : Nat} (h : W.cell? ⟨g, 0, none⟩ = some (.int .i64 8) ∧ W.cell? ⟨g, 1, none⟩ = some (.int .i64 4) ∧ W.cell? ⟨g, 2, none⟩ = some (.int .i64 0)) :
    Calls Try.prog 33 #[.int .i64 2, .agg #[.int .i64 0, .int .i64 9, .int .u8 0, .int .i64 0, .slice none 0 0, .slice none 0 0], .agg #[.int .i64 5, .int .u8 2, .int .i64 0, .slice none 0 0, .slice none 0 0], .slice (some ⟨g, 0, none⟩) 3 3] W (Put W 1 5 2) :=
  (pick_help 2 0 9 0 0 5 2 0 none none none none (some ⟨g, 0, none⟩) 0 0 0 0 0 0 0 0 3 [] [] [] [] [8, 4, 0] W (by omega) (by omega) (opIn_nil _ _) (opIn_nil _ _) (aw_ints h.1 h.2.1 h.2.2) (by simp) (by decide)).mono
    fun e w' ⟨A1, c1, B1, c2, he, hb, _⟩ => ⟨A1, c1, B1, c2, he, hb⟩
theorem aw_two {W : World} {g : Nat} (h : W.cell? ⟨g, 0, none⟩ = some (.int .i64 8) ∧ W.cell? ⟨g, 1, none⟩ = some (.int .i64 5) ∧ W.cell? ⟨g, 2, none⟩ = some (.int .i64 0)) :
    Calls Try.prog 33 #[.int .i64 2, .agg #[.int .i64 0, .int .i64 9, .int .u8 0, .int .i64 0, .slice none 0 0, .slice none 0 0], .agg #[.int .i64 5, .int .u8 2, .int .i64 0, .slice none 0 0, .slice none 0 0], .slice (some ⟨g, 0, none⟩) 3 3] W (Put W 0 9 0) :=
  (pick_own 2 0 9 0 0 5 2 0 none none none none (some ⟨g, 0, none⟩) 0 0 0 0 0 0 0 0 3 [] [] [] [] [8, 5, 0] W (by omega) (by omega) (opIn_nil _ _) (opIn_nil _ _) (aw_ints h.1 h.2.1 h.2.2) (by simp) (by decide)).mono
    fun e w' ⟨A1, c1, B1, c2, he, hb, _⟩ => ⟨A1, c1, B1, c2, he, hb⟩


/-- What lies in memory behind the two calls. -/
def AwAt (w : World) (v3 v4 : Value) (W : World) : Prop :=
  ∃ g3 g4, v3 = .pointer (some ⟨g3, 0, none⟩) ∧ v4 = .pointer (some ⟨g4, 0, none⟩) ∧ Below w.heap.size w W ∧
    W.cell? ⟨g3, 0, none⟩ = some (.int .i64 1) ∧ W.cell? ⟨g3, 1, none⟩ = some (.int .i64 5) ∧ W.cell? ⟨g3, 2, none⟩ = some (.int .u8 2) ∧
    W.cell? ⟨g4, 0, none⟩ = some (.int .i64 0) ∧ W.cell? ⟨g4, 1, none⟩ = some (.int .i64 9)

/-- What holds when the operations in L have come up. -/
structure AwJ (w : World) (L : Nat → Bool) (v3 v4 v8 v9 v10 v11 v12 v13 v14 v15 : Value) (V : World) : Prop where
  b : Below w.heap.size w V
  b0 : Blk V w.heap.size [.int .i64 0, .int .i64 9, .int .u8 0, .int .i64 0, .slice none 0 0, .slice none 0 0]
  b1 : Blk V (w.heap.size + 1) [.int .i64 5, .int .u8 2, .int .i64 0, .slice none 0 0, .slice none 0 0]
  p8 : L 10 = true → L 8 = true
  p9 : L 11 = true → L 9 = true
  k0 : L 0 = true → v8 = .agg #[.int .i64 0, .int .i64 9, .int .u8 0, .int .i64 0, .slice none 0 0, .slice none 0 0]
  k1 : L 1 = true → v9 = .agg #[.int .i64 5, .int .u8 2, .int .i64 0, .slice none 0 0, .slice none 0 0]
  k2 : L 2 = true → L 3 = false → ∃ g, v10 = .slice (some ⟨g, 0, none⟩) 3 3 ∧ Blk V g [.int .i64 8, .int .i64 4, .int .i64 0]
  k3 : L 3 = true → ∃ A1 c1 B1 c2, v11 = .agg #[.int .i64 1, .int .i64 5, .int .u8 2, .int .i64 0, .slice A1 0 c1, .slice B1 0 c2]
  k4 : L 4 = true → v12 = .agg #[.int .i64 0, .int .i64 9, .int .u8 0, .int .i64 0, .slice none 0 0, .slice none 0 0]
  k5 : L 5 = true → v13 = .agg #[.int .i64 5, .int .u8 2, .int .i64 0, .slice none 0 0, .slice none 0 0]
  k6 : L 6 = true → L 7 = false → ∃ g, v14 = .slice (some ⟨g, 0, none⟩) 3 3 ∧ Blk V g [.int .i64 8, .int .i64 5, .int .i64 0]
  k7 : L 7 = true → ∃ A1 c1 B1 c2, v15 = .agg #[.int .i64 0, .int .i64 9, .int .u8 0, .int .i64 0, .slice A1 0 c1, .slice B1 0 c2]
  k8 : L 8 = true → ∃ g x0 x1 x2 x3 x4 x5, v3 = .pointer (some ⟨g, 0, none⟩) ∧ w.heap.size + 1 < g ∧ Blk V g [x0, x1, x2, x3, x4, x5] ∧ (L 10 = true → x0 = .int .i64 1 ∧ x1 = .int .i64 5 ∧ x2 = .int .u8 2)
  k9 : L 9 = true → ∃ g x0 x1 x2 x3 x4 x5, v4 = .pointer (some ⟨g, 0, none⟩) ∧ w.heap.size + 1 < g ∧ Blk V g [x0, x1, x2, x3, x4, x5] ∧ (L 11 = true → x0 = .int .i64 0 ∧ x1 = .int .i64 9)
  ne : L 8 = true → L 9 = true → v3 ≠ v4

theorem AwJ.carry {w : World} {L : Nat → Bool} {v3 v4 v8 v9 v10 v11 v12 v13 v14 v15 : Value} {V V' : World} (h : AwJ w L v3 v4 v8 v9 v10 v11 v12 v13 v14 v15 V) (hB : Below w.heap.size w V')
    (hk : ∀ b vs, Blk V b vs → Blk V' b vs) : AwJ w L v3 v4 v8 v9 v10 v11 v12 v13 v14 v15 V' :=
  ⟨hB, hk _ _ h.b0, hk _ _ h.b1, h.p8, h.p9, h.k0, h.k1, fun a b => let ⟨g, e, k⟩ := h.k2 a b; ⟨g, e, hk _ _ k⟩, h.k3, h.k4, h.k5, fun a b => let ⟨g, e, k⟩ := h.k6 a b; ⟨g, e, hk _ _ k⟩, h.k7,
    fun a => let ⟨g, x0, x1, x2, x3, x4, x5, e, l, k, r⟩ := h.k8 a; ⟨g, x0, x1, x2, x3, x4, x5, e, l, hk _ _ k, r⟩,
    fun a => let ⟨g, x0, x1, x2, x3, x4, x5, e, l, k, r⟩ := h.k9 a; ⟨g, x0, x1, x2, x3, x4, x5, e, l, hk _ _ k, r⟩, h.ne⟩

set_option maxRecDepth 100000 in
set_option maxHeartbeats 8000000 in
theorem awake22_any (w : World) : Calls Try.prog 35 #[] w fun e w' => e = .returned (.bool true) ∧ Below w.heap.size w w' := by
  go_enter Try.func35, Try.ntmps35
  go_upto_region 3 with fail
  obtain ⟨W, hW⟩ : ∃ W, (w.alloc (.cells #[.int .i64 0, .int .i64 9, .int .u8 0, .int .i64 0, .slice none 0 0, .slice none 0 0] 58)).alloc (.cells #[.int .i64 5, .int .u8 2, .int .i64 0, .slice none 0 0, .slice none 0 0] 60) = W := ⟨_, rfl⟩
  have hB0 : Below w.heap.size w W := by rw [← hW]; go_grown
  have b0 : Blk W w.heap.size [.int .i64 0, .int .i64 9, .int .u8 0, .int .i64 0, .slice none 0 0, .slice none 0 0] := by rw [← hW]; exact (Blk.new w _ _).alloc _
  have b1 : Blk W (w.heap.size + 1) [.int .i64 5, .int .u8 2, .int .i64 0, .slice none 0 0, .slice none 0 0] := by
    rw [← hW]
    have := Blk.new (w.alloc (.cells #[.int .i64 0, .int .i64 9, .int .u8 0, .int .i64 0, .slice none 0 0, .slice none 0 0] 58)) #[.int .i64 5, .int .u8 2, .int .i64 0, .slice none 0 0, .slice none 0 0] 60
    simpa using this
  rw [hW]
  clear hW
  go_cut [3, 4] (fun s3 s4 wx => AwAt w s3 s4 wx)
  case first =>
    as_aux_lemma =>
      refine wp_region_J (by kernel_rfl) (by kernel_rfl) (fun L a V => ∃ v3 v4 v8 v9 v10 v11 v12 v13 v14 v15, a = { tmps := #[.bool false, .pointer (some ⟨w.heap.size, 0, none⟩), .pointer (some ⟨w.heap.size + 1, 0, none⟩), v3, v4, .agg #[.int .i64 0, .int .i64 9, .int .u8 0, .int .i64 0, .slice none 0 0, .slice none 0 0], .agg #[.int .u8 2, .int .i64 0, .slice none 0 0, .slice none 0 0], .agg #[.int .i64 5, .int .u8 2, .int .i64 0, .slice none 0 0, .slice none 0 0], v8, v9, v10, v11, v12, v13, v14, v15, undef, undef, undef, undef, undef, undef, undef, undef, undef, undef, undef, undef, undef, undef, undef, undef, undef, undef, undef, undef, undef, undef, undef, undef, undef, undef, undef, undef, undef, undef, undef, undef, undef, undef, undef, undef, undef, undef, undef, undef], defers := [] } ∧ AwJ w L v3 v4 v8 v9 v10 v11 v12 v13 v14 v15 V) ?_ ?_ ?_
      · exact ⟨undef, undef, undef, undef, undef, undef, undef, undef, undef, undef, rfl, hB0.drew, b0.drew, b1.drew, (fun h => by cases h), (fun h => by cases h), (fun h => by cases h), (fun h => by cases h), (fun h => by cases h), (fun h => by cases h), (fun h => by cases h), (fun h => by cases h), (fun h => by cases h), (fun h => by cases h), (fun h => by cases h), (fun h => by cases h), (fun h => by cases h)⟩
      · intro L a V i o hJ hL ho hdep K' hK
        obtain ⟨v3, v4, v8, v9, v10, v11, v12, v13, v14, v15, rfl, h⟩ := hJ
        have HK := Lib.hid hK
        clear hK
        have hlen := (Array.getElem?_eq_some_iff.1 ho).1
        match i, ho, hL, hlen with
        | 0, ho, hL, _ =>
          obtain rfl := Option.some.inj ho
          clear ho
          have d0 : V.cell? ⟨w.heap.size, 0, none⟩ = some (.int .i64 0) := h.b0.c 0 _ rfl
          have d1 : V.cell? ⟨w.heap.size, 1, none⟩ = some (.int .i64 9) := h.b0.c 1 _ rfl
          have d2 : V.cell? ⟨w.heap.size, 2, none⟩ = some (.int .u8 0) := h.b0.c 2 _ rfl
          have d3 : V.cell? ⟨w.heap.size, 3, none⟩ = some (.int .i64 0) := h.b0.c 3 _ rfl
          have d4 : V.cell? ⟨w.heap.size, 4, none⟩ = some (.slice none 0 0) := h.b0.c 4 _ rfl
          have d5 : V.cell? ⟨w.heap.size, 5, none⟩ = some (.slice none 0 0) := h.b0.c 5 _ rfl
          clear hdep
          go_simp
          exact HK.out _ _ ⟨_, _, _, _, _, _, _, _, _, _, rfl, ⟨h.b, h.b0, h.b1, h.p8, h.p9, fun _ => rfl, h.k1, h.k2, h.k3, h.k4, h.k5, h.k6, h.k7, h.k8, h.k9, h.ne⟩⟩
        | 1, ho, hL, _ =>
          obtain rfl := Option.some.inj ho
          clear ho
          have d0 : V.cell? ⟨w.heap.size + 1, 0, none⟩ = some (.int .i64 5) := h.b1.c 0 _ rfl
          have d1 : V.cell? ⟨w.heap.size + 1, 1, none⟩ = some (.int .u8 2) := h.b1.c 1 _ rfl
          have d2 : V.cell? ⟨w.heap.size + 1, 2, none⟩ = some (.int .i64 0) := h.b1.c 2 _ rfl
          have d3 : V.cell? ⟨w.heap.size + 1, 3, none⟩ = some (.slice none 0 0) := h.b1.c 3 _ rfl
          have d4 : V.cell? ⟨w.heap.size + 1, 4, none⟩ = some (.slice none 0 0) := h.b1.c 4 _ rfl
          clear hdep
          go_simp
          exact HK.out _ _ ⟨_, _, _, _, _, _, _, _, _, _, rfl, ⟨h.b, h.b0, h.b1, h.p8, h.p9, h.k0, fun _ => rfl, h.k2, h.k3, h.k4, h.k5, h.k6, h.k7, h.k8, h.k9, h.ne⟩⟩
        | 2, ho, hL, _ =>
          obtain rfl := Option.some.inj ho
          clear ho
          clear hdep
          have hk := fun b vs (x : Blk V b vs) => x.alloc (.cells #[.int .i64 8, .int .i64 4, .int .i64 0] 3)
          have h := h.carry (h.b.alloc h.b.size (.cells #[.int .i64 8, .int .i64 4, .int .i64 0] 3)) hk
          go_simp
          exact HK.out _ _ ⟨_, _, _, _, _, _, _, _, _, _, rfl, ⟨h.b, h.b0, h.b1, h.p8, h.p9, h.k0, h.k1, fun _ _ => ⟨_, rfl, Blk.new V #[.int .i64 8, .int .i64 4, .int .i64 0] 3⟩, h.k3, h.k4, h.k5, h.k6, h.k7, h.k8, h.k9, h.ne⟩⟩
        | 3, ho, hL, _ =>
          obtain rfl := Option.some.inj ho
          clear ho
          have q0 : L 0 = true := hdep ⟨0, .data⟩ (by simp) rfl
          have q1 : L 1 = true := hdep ⟨1, .data⟩ (by simp) rfl
          have q2 : L 2 = true := hdep ⟨2, .data⟩ (by simp) rfl
          obtain rfl := h.k0 q0
          obtain rfl := h.k1 q1
          obtain ⟨g, rfl, hg⟩ := h.k2 q2 hL
          clear hdep
          go_simp
          refine (aw_one ⟨hg.c 0 _ rfl, hg.c 1 _ rfl, hg.c 2 _ rfl⟩).mono ?_
          rintro e V' ⟨A1, c1, B1, c2, rfl, hb⟩
          have h := h.carry (below_next h.b hb) (fun b vs x => x.below hb)
          clear hg
          go_simp
          exact HK.out _ _ ⟨_, _, _, _, _, _, _, _, _, _, rfl, ⟨h.b, h.b0, h.b1, h.p8, h.p9, h.k0, h.k1, (fun _ q => by cases q), fun _ => ⟨_, _, _, _, rfl⟩, h.k4, h.k5, h.k6, h.k7, h.k8, h.k9, h.ne⟩⟩
        | 4, ho, hL, _ =>
          obtain rfl := Option.some.inj ho
          clear ho
          have d0 : V.cell? ⟨w.heap.size, 0, none⟩ = some (.int .i64 0) := h.b0.c 0 _ rfl
          have d1 : V.cell? ⟨w.heap.size, 1, none⟩ = some (.int .i64 9) := h.b0.c 1 _ rfl
          have d2 : V.cell? ⟨w.heap.size, 2, none⟩ = some (.int .u8 0) := h.b0.c 2 _ rfl
          have d3 : V.cell? ⟨w.heap.size, 3, none⟩ = some (.int .i64 0) := h.b0.c 3 _ rfl
          have d4 : V.cell? ⟨w.heap.size, 4, none⟩ = some (.slice none 0 0) := h.b0.c 4 _ rfl
          have d5 : V.cell? ⟨w.heap.size, 5, none⟩ = some (.slice none 0 0) := h.b0.c 5 _ rfl
          clear hdep
          go_simp
          exact HK.out _ _ ⟨_, _, _, _, _, _, _, _, _, _, rfl, ⟨h.b, h.b0, h.b1, h.p8, h.p9, h.k0, h.k1, h.k2, h.k3, fun _ => rfl, h.k5, h.k6, h.k7, h.k8, h.k9, h.ne⟩⟩
        | 5, ho, hL, _ =>
          obtain rfl := Option.some.inj ho
          clear ho
          have d0 : V.cell? ⟨w.heap.size + 1, 0, none⟩ = some (.int .i64 5) := h.b1.c 0 _ rfl
          have d1 : V.cell? ⟨w.heap.size + 1, 1, none⟩ = some (.int .u8 2) := h.b1.c 1 _ rfl
          have d2 : V.cell? ⟨w.heap.size + 1, 2, none⟩ = some (.int .i64 0) := h.b1.c 2 _ rfl
          have d3 : V.cell? ⟨w.heap.size + 1, 3, none⟩ = some (.slice none 0 0) := h.b1.c 3 _ rfl
          have d4 : V.cell? ⟨w.heap.size + 1, 4, none⟩ = some (.slice none 0 0) := h.b1.c 4 _ rfl
          clear hdep
          go_simp
          exact HK.out _ _ ⟨_, _, _, _, _, _, _, _, _, _, rfl, ⟨h.b, h.b0, h.b1, h.p8, h.p9, h.k0, h.k1, h.k2, h.k3, h.k4, fun _ => rfl, h.k6, h.k7, h.k8, h.k9, h.ne⟩⟩
        | 6, ho, hL, _ =>
          obtain rfl := Option.some.inj ho
          clear ho
          clear hdep
          have hk := fun b vs (x : Blk V b vs) => x.alloc (.cells #[.int .i64 8, .int .i64 5, .int .i64 0] 3)
          have h := h.carry (h.b.alloc h.b.size (.cells #[.int .i64 8, .int .i64 5, .int .i64 0] 3)) hk
          go_simp
          exact HK.out _ _ ⟨_, _, _, _, _, _, _, _, _, _, rfl, ⟨h.b, h.b0, h.b1, h.p8, h.p9, h.k0, h.k1, h.k2, h.k3, h.k4, h.k5, fun _ _ => ⟨_, rfl, Blk.new V #[.int .i64 8, .int .i64 5, .int .i64 0] 3⟩, h.k7, h.k8, h.k9, h.ne⟩⟩
        | 7, ho, hL, _ =>
          obtain rfl := Option.some.inj ho
          clear ho
          have q4 : L 4 = true := hdep ⟨4, .data⟩ (by simp) rfl
          have q5 : L 5 = true := hdep ⟨5, .data⟩ (by simp) rfl
          have q6 : L 6 = true := hdep ⟨6, .data⟩ (by simp) rfl
          obtain rfl := h.k4 q4
          obtain rfl := h.k5 q5
          obtain ⟨g, rfl, hg⟩ := h.k6 q6 hL
          clear hdep
          go_simp
          refine (aw_two ⟨hg.c 0 _ rfl, hg.c 1 _ rfl, hg.c 2 _ rfl⟩).mono ?_
          rintro e V' ⟨A1, c1, B1, c2, rfl, hb⟩
          have h := h.carry (below_next h.b hb) (fun b vs x => x.below hb)
          clear hg
          go_simp
          exact HK.out _ _ ⟨_, _, _, _, _, _, _, _, _, _, rfl, ⟨h.b, h.b0, h.b1, h.p8, h.p9, h.k0, h.k1, h.k2, h.k3, h.k4, h.k5, (fun _ q => by cases q), fun _ => ⟨_, _, _, _, rfl⟩, h.k8, h.k9, h.ne⟩⟩
        | 8, ho, hL, _ =>
          obtain rfl := Option.some.inj ho
          clear ho
          clear hdep
          have hk := fun b vs (x : Blk V b vs) => x.alloc (.cells #[.int .i64 0, .int .i64 0, .int .u8 0, .int .i64 0, .slice none 0 0, .slice none 0 0] 58)
          have h0 := h
          have hz : w.heap.size + 1 < V.heap.size := h.b1.l
          have h := h.carry (h.b.alloc h.b.size (.cells #[.int .i64 0, .int .i64 0, .int .u8 0, .int .i64 0, .slice none 0 0, .slice none 0 0] 58)) hk
          have hl : L 10 = false := by
            cases q : L 10
            · rfl
            · rw [h.p8 q] at hL; cases hL
          go_simp
          refine HK.out _ _ ⟨_, _, _, _, _, _, _, _, _, _, rfl, ⟨h.b, h.b0, h.b1, (fun _ => rfl), h.p9, h.k0, h.k1, h.k2, h.k3, h.k4, h.k5, h.k6, h.k7, fun _ => ⟨_, _, _, _, _, _, _, rfl, hz, Blk.new V #[.int .i64 0, .int .i64 0, .int .u8 0, .int .i64 0, .slice none 0 0, .slice none 0 0] 58, (fun q => by rw [show (10 == 8 || L 10) = L 10 from rfl, hl] at q; cases q)⟩, h.k9, ?_⟩⟩
          exact fun _ q => by
            obtain ⟨g, x0, x1, x2, x3, x4, x5, e, l, hb, r⟩ := h0.k9 q
            rw [e]
            intro e2
            injection e2 with e2; injection e2 with e2; injection e2 with e2
            have := hb.l
            omega
        | 9, ho, hL, _ =>
          obtain rfl := Option.some.inj ho
          clear ho
          clear hdep
          have hk := fun b vs (x : Blk V b vs) => x.alloc (.cells #[.int .i64 0, .int .i64 0, .int .u8 0, .int .i64 0, .slice none 0 0, .slice none 0 0] 58)
          have h0 := h
          have hz : w.heap.size + 1 < V.heap.size := h.b1.l
          have h := h.carry (h.b.alloc h.b.size (.cells #[.int .i64 0, .int .i64 0, .int .u8 0, .int .i64 0, .slice none 0 0, .slice none 0 0] 58)) hk
          have hl : L 11 = false := by
            cases q : L 11
            · rfl
            · rw [h.p9 q] at hL; cases hL
          go_simp
          refine HK.out _ _ ⟨_, _, _, _, _, _, _, _, _, _, rfl, ⟨h.b, h.b0, h.b1, h.p8, (fun _ => rfl), h.k0, h.k1, h.k2, h.k3, h.k4, h.k5, h.k6, h.k7, h.k8, fun _ => ⟨_, _, _, _, _, _, _, rfl, hz, Blk.new V #[.int .i64 0, .int .i64 0, .int .u8 0, .int .i64 0, .slice none 0 0, .slice none 0 0] 58, (fun q => by rw [show (11 == 9 || L 11) = L 11 from rfl, hl] at q; cases q)⟩, ?_⟩⟩
          exact fun q _ => by
            obtain ⟨g, x0, x1, x2, x3, x4, x5, e, l, hb, r⟩ := h0.k8 q
            rw [e]
            intro e2
            injection e2 with e2; injection e2 with e2; injection e2 with e2
            have := hb.l
            omega
        | 10, ho, hL, _ =>
          obtain rfl := Option.some.inj ho
          clear ho
          have q8 : L 8 = true := hdep ⟨8, .data⟩ (by simp) rfl
          have q3 : L 3 = true := hdep ⟨3, .data⟩ (by simp) rfl
          have q7 : L 7 = true := hdep ⟨7, .chain⟩ (by simp) rfl
          obtain ⟨g, x0, x1, x2, x3, x4, x5, rfl, hlt, hb, hr⟩ := h.k8 q8
          obtain ⟨A1, c1, B1, c2, rfl⟩ := h.k3 q3
          clear hdep
          have d0 : V.cell? ⟨g, 0, none⟩ = some x0 := hb.c 0 _ rfl
          have d1 : V.cell? ⟨g, 1, none⟩ = some x1 := hb.c 1 _ rfl
          have d2 : V.cell? ⟨g, 2, none⟩ = some x2 := hb.c 2 _ rfl
          have d3 : V.cell? ⟨g, 3, none⟩ = some x3 := hb.c 3 _ rfl
          have d4 : V.cell? ⟨g, 4, none⟩ = some x4 := hb.c 4 _ rfl
          have d5 : V.cell? ⟨g, 5, none⟩ = some x5 := hb.c 5 _ rfl
          have df := hb.f
          have hb2 := ((((((hb.set (j := 0) rfl (.int .i64 1)).set (j := 1) rfl (.int .i64 5)).set (j := 2) rfl (.int .u8 2)).set (j := 3) rfl (.int .i64 0)).set (j := 4) rfl (.slice A1 0 c1)).set (j := 5) rfl (.slice B1 0 c2))
          have u0 : Blk _ _ _ := ((((((h.b0.other (b' := g) (by omega) 0 (.int .i64 1)).other (b' := g) (by omega) 1 (.int .i64 5)).other (b' := g) (by omega) 2 (.int .u8 2)).other (b' := g) (by omega) 3 (.int .i64 0)).other (b' := g) (by omega) 4 (.slice A1 0 c1)).other (b' := g) (by omega) 5 (.slice B1 0 c2))
          have u1 : Blk _ _ _ := ((((((h.b1.other (b' := g) (by omega) 0 (.int .i64 1)).other (b' := g) (by omega) 1 (.int .i64 5)).other (b' := g) (by omega) 2 (.int .u8 2)).other (b' := g) (by omega) 3 (.int .i64 0)).other (b' := g) (by omega) 4 (.slice A1 0 c1)).other (b' := g) (by omega) 5 (.slice B1 0 c2))
          have u9 : L 9 = true → ∀ g', v4 = .pointer (some ⟨g', 0, none⟩) → g ≠ g' := by
            intro q g' e1 e2
            subst e2
            exact h.ne q8 q e1.symm
          have hB : Below w.heap.size w _ := Below.setCell (Below.setCell (Below.setCell (Below.setCell (Below.setCell (Below.setCell (h.b) (show w.heap.size ≤ (⟨g, 0, none⟩ : Addr).block by show w.heap.size ≤ g; omega) (.int .i64 1)) (show w.heap.size ≤ (⟨g, 1, none⟩ : Addr).block by show w.heap.size ≤ g; omega) (.int .i64 5)) (show w.heap.size ≤ (⟨g, 2, none⟩ : Addr).block by show w.heap.size ≤ g; omega) (.int .u8 2)) (show w.heap.size ≤ (⟨g, 3, none⟩ : Addr).block by show w.heap.size ≤ g; omega) (.int .i64 0)) (show w.heap.size ≤ (⟨g, 4, none⟩ : Addr).block by show w.heap.size ≤ g; omega) (.slice A1 0 c1)) (show w.heap.size ≤ (⟨g, 5, none⟩ : Addr).block by show w.heap.size ≤ g; omega) (.slice B1 0 c2)
          skip
          go_simp
          refine HK.out _ _ ⟨_, _, _, _, _, _, _, _, _, _, rfl, ⟨hB, u0, u1, fun _ => q8, h.p9, h.k0, h.k1, (fun _ q => by rw [show (3 == 10 || L 3) = L 3 from rfl, q3] at q; cases q), h.k3, h.k4, h.k5, (fun _ q => by rw [show (7 == 10 || L 7) = L 7 from rfl, q7] at q; cases q), h.k7, fun _ => ⟨g, _, _, _, _, _, _, rfl, hlt, hb2, fun _ => ⟨rfl, rfl, rfl⟩⟩, ?_, h.ne⟩⟩
          exact fun q => by
            obtain ⟨g', y0, y1, y2, y3, y4, y5, e, l, k, r⟩ := h.k9 q
            have hne := u9 q g' e
            exact ⟨g', y0, y1, y2, y3, y4, y5, e, l, ((((((k.other (b' := g) hne 0 (.int .i64 1)).other (b' := g) hne 1 (.int .i64 5)).other (b' := g) hne 2 (.int .u8 2)).other (b' := g) hne 3 (.int .i64 0)).other (b' := g) hne 4 (.slice A1 0 c1)).other (b' := g) hne 5 (.slice B1 0 c2)), r⟩
        | 11, ho, hL, _ =>
          obtain rfl := Option.some.inj ho
          clear ho
          have q9 : L 9 = true := hdep ⟨9, .data⟩ (by simp) rfl
          have q7 : L 7 = true := hdep ⟨7, .data⟩ (by simp) rfl
          have q3 : L 3 = true := hdep ⟨3, .phase⟩ (by simp) rfl
          obtain ⟨g, x0, x1, x2, x3, x4, x5, rfl, hlt, hb, hr⟩ := h.k9 q9
          obtain ⟨A1, c1, B1, c2, rfl⟩ := h.k7 q7
          clear hdep
          have d0 : V.cell? ⟨g, 0, none⟩ = some x0 := hb.c 0 _ rfl
          have d1 : V.cell? ⟨g, 1, none⟩ = some x1 := hb.c 1 _ rfl
          have d2 : V.cell? ⟨g, 2, none⟩ = some x2 := hb.c 2 _ rfl
          have d3 : V.cell? ⟨g, 3, none⟩ = some x3 := hb.c 3 _ rfl
          have d4 : V.cell? ⟨g, 4, none⟩ = some x4 := hb.c 4 _ rfl
          have d5 : V.cell? ⟨g, 5, none⟩ = some x5 := hb.c 5 _ rfl
          have df := hb.f
          have hb2 := ((((((hb.set (j := 0) rfl (.int .i64 0)).set (j := 1) rfl (.int .i64 9)).set (j := 2) rfl (.int .u8 0)).set (j := 3) rfl (.int .i64 0)).set (j := 4) rfl (.slice A1 0 c1)).set (j := 5) rfl (.slice B1 0 c2))
          have u0 : Blk _ _ _ := ((((((h.b0.other (b' := g) (by omega) 0 (.int .i64 0)).other (b' := g) (by omega) 1 (.int .i64 9)).other (b' := g) (by omega) 2 (.int .u8 0)).other (b' := g) (by omega) 3 (.int .i64 0)).other (b' := g) (by omega) 4 (.slice A1 0 c1)).other (b' := g) (by omega) 5 (.slice B1 0 c2))
          have u1 : Blk _ _ _ := ((((((h.b1.other (b' := g) (by omega) 0 (.int .i64 0)).other (b' := g) (by omega) 1 (.int .i64 9)).other (b' := g) (by omega) 2 (.int .u8 0)).other (b' := g) (by omega) 3 (.int .i64 0)).other (b' := g) (by omega) 4 (.slice A1 0 c1)).other (b' := g) (by omega) 5 (.slice B1 0 c2))
          have u9 : L 8 = true → ∀ g', v3 = .pointer (some ⟨g', 0, none⟩) → g ≠ g' := by
            intro q g' e1 e2
            subst e2
            exact h.ne q q9 e1
          have hB : Below w.heap.size w _ := Below.setCell (Below.setCell (Below.setCell (Below.setCell (Below.setCell (Below.setCell (h.b) (show w.heap.size ≤ (⟨g, 0, none⟩ : Addr).block by show w.heap.size ≤ g; omega) (.int .i64 0)) (show w.heap.size ≤ (⟨g, 1, none⟩ : Addr).block by show w.heap.size ≤ g; omega) (.int .i64 9)) (show w.heap.size ≤ (⟨g, 2, none⟩ : Addr).block by show w.heap.size ≤ g; omega) (.int .u8 0)) (show w.heap.size ≤ (⟨g, 3, none⟩ : Addr).block by show w.heap.size ≤ g; omega) (.int .i64 0)) (show w.heap.size ≤ (⟨g, 4, none⟩ : Addr).block by show w.heap.size ≤ g; omega) (.slice A1 0 c1)) (show w.heap.size ≤ (⟨g, 5, none⟩ : Addr).block by show w.heap.size ≤ g; omega) (.slice B1 0 c2)
          skip
          go_simp
          refine HK.out _ _ ⟨_, _, _, _, _, _, _, _, _, _, rfl, ⟨hB, u0, u1, h.p8, fun _ => q9, h.k0, h.k1, (fun _ q => by rw [show (3 == 11 || L 3) = L 3 from rfl, q3] at q; cases q), h.k3, h.k4, h.k5, (fun _ q => by rw [show (7 == 11 || L 7) = L 7 from rfl, q7] at q; cases q), h.k7, ?_, fun _ => ⟨g, _, _, _, _, _, _, rfl, hlt, hb2, fun _ => ⟨rfl, rfl⟩⟩, h.ne⟩⟩
          exact fun q => by
            obtain ⟨g', y0, y1, y2, y3, y4, y5, e, l, k, r⟩ := h.k8 q
            have hne := u9 q g' e
            exact ⟨g', y0, y1, y2, y3, y4, y5, e, l, ((((((k.other (b' := g) hne 0 (.int .i64 0)).other (b' := g) hne 1 (.int .i64 9)).other (b' := g) hne 2 (.int .u8 0)).other (b' := g) hne 3 (.int .i64 0)).other (b' := g) hne 4 (.slice A1 0 c1)).other (b' := g) hne 5 (.slice B1 0 c2)), r⟩
        | _ + 12, ho, hL, hlen => exact absurd hlen (by simp)
      · intro L a V hJ hall
        obtain ⟨v3, v4, v8, v9, v10, v11, v12, v13, v14, v15, rfl, h⟩ := hJ
        have q : ∀ i, i < 12 → L i = true := fun i hi => hall i hi
        obtain ⟨g, x0, x1, x2, x3, x4, x5, rfl, hlt, hb, hr⟩ := h.k8 (q 8 (by omega))
        obtain ⟨g', y0, y1, y2, y3, y4, y5, rfl, hlt', hb', hr'⟩ := h.k9 (q 9 (by omega))
        obtain ⟨rfl, rfl, rfl⟩ := hr (q 10 (by omega))
        obtain ⟨rfl, rfl⟩ := hr' (q 11 (by omega))
        have FIN : AwAt w (.pointer (some ⟨g, 0, none⟩)) (.pointer (some ⟨g', 0, none⟩)) V := ⟨g, g', rfl, rfl, h.b, hb.c 0 _ rfl, hb.c 1 _ rfl, hb.c 2 _ rfl, hb'.c 0 _ rfl, hb'.c 1 _ rfl⟩
        clear h hb hb' hall
        dsimp only
        go_wp2_with fail
        go_meet
        exact FIN
  case rest =>
    as_aux_lemma =>
      obtain ⟨g, g', rfl, rfl, hB, c0, c1, c2, d0, d1⟩ := hcut
      have w1 := fun W => whose_any 1 3 W (by omega) (by omega)
      have w2 := fun W => whose_any 4 3 W (by omega) (by omega)
      have w3 := fun W => whose_any 6 3 W (by omega) (by omega)
      have w4 := fun W => whose_any 0 3 W (by omega) (by omega)
      rw [show whoseI 1 3 = 0 by decide] at w1
      rw [show whoseI 4 3 = 0 by decide] at w2
      rw [show whoseI 6 3 = 2 by decide] at w3
      rw [show whoseI 0 3 = -1 by decide] at w4
      have W1 := Lib.hid w1
      have W2 := Lib.hid w2
      have W3 := Lib.hid w3
      have W4 := Lib.hid w4
      clear w1 w2 w3 w4
      go_wp2_with fail
      refine (W1.out _).mono ?_
      rintro e w' ⟨rfl, hq⟩
      subst hq
      go_wp2_with fail
      refine (W2.out _).mono ?_
      rintro e w' ⟨rfl, hq⟩
      subst hq
      go_wp2_with fail
      refine (W3.out _).mono ?_
      rintro e w' ⟨rfl, hq⟩
      subst hq
      go_wp2_with fail
      refine (W4.out _).mono ?_
      rintro e w' ⟨rfl, hq⟩
      subst hq
      go_wp2_with fail
      go_ret
      exact ⟨rfl, hB⟩
#print axioms awake22_any

end Go.Proofs.Ytkjmnmcekhnkmab
