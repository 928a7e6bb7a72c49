/- Frames: the chapter's example (awake). -/
import Derived.Test.YthllfeogchbihaaFrameE
import Derived.Test.YthllfeogchbihaaEqV
namespace Go.Proofs.Ythllfeogchbihaa
open Go.RowKit
set_option linter.unusedSimpArgs false
set_option linter.unusedVariables false

theorem bytes_one (w : World) (k : Int) (h : 0 ≤ k ∧ k ≤ 255) : BytesAt (w.alloc (.cells #[.int .u8 k] 5)) (some ⟨w.heap.size, 0, none⟩) 1 [k] :=
  ⟨rfl, fun i hi => by
    obtain rfl : i = 0 := by simpa using hi
    exact ⟨w.heap.size, 0, rfl, by simp, h, by simp⟩⟩
theorem vs_one (w : World) (v : V) (h : VOk v) : VsAt (w.alloc (.cells #[.int .u8 v.1, .int .i64 v.2.1, .int .i64 v.2.2] 37)) (some ⟨w.heap.size, 0, none⟩) 1 [v] :=
  ⟨rfl, fun i hi => by
    obtain rfl : i = 0 := by simpa using hi
    exact ⟨w.heap.size, 0, rfl, by simp, h, by simp, by simp, by simp⟩⟩
def F1 : Fr := newFr [1] [2] [(1, 5, 0)]
theorem ok1 : NewOk [1] [2] [(1, 5, 0)] := by
  refine ⟨rfl, by decide, ?_, ?_⟩
  · intro i h h2
    obtain rfl : i = 0 := by simpa using h
    exact ⟨by show kindB 1 = true; decide, rfl⟩
  · intro i h
    obtain rfl : i = 0 := by simpa using h
    show kindB 2 = true
    decide
theorem five_ok : VOk (1, 5, 0) := ⟨⟨by decide, by decide⟩, ⟨by decide, by decide⟩, ⟨by decide, by decide⟩⟩

/-- What the example's calls need of memory at the first New. -/
theorem awake_at (w : World) : ∃ W, ((((w.alloc (.cells #[.int .u8 1, .int .i64 5, .int .i64 0] 37)).alloc (.cells #[.int .u8 1] 5)).alloc (.cells #[.int .u8 2] 5)).alloc (.cells #[.int .u8 1, .int .i64 5, .int .i64 0] 37)) = W ∧
    Below w.heap.size w W ∧ Blk W w.heap.size [.int .u8 1, .int .i64 5, .int .i64 0] ∧ BytesAt W (some ⟨w.heap.size + 1, 0, none⟩) 1 [1] ∧ BytesAt W (some ⟨w.heap.size + 2, 0, none⟩) 1 [2] ∧ VsAt W (some ⟨w.heap.size + 3, 0, none⟩) 1 [(1, 5, 0)] := by
  refine ⟨_, rfl, ?_, ?_, ?_, ?_, ?_⟩
  · exact ((((Below.refl _ _).alloc (Nat.le_refl _) _).alloc (by simp) _).alloc (by simp; omega) _).alloc (by simp; omega) _
  · exact (((Blk.new w #[.int .u8 1, .int .i64 5, .int .i64 0] 37).alloc _).alloc _).alloc _
  · have h := bytes_one (w.alloc (.cells #[.int .u8 1, .int .i64 5, .int .i64 0] 37)) 1 ⟨by decide, by decide⟩
    have h2 := (h.below ((Below.refl _ _).alloc (Nat.le_refl _) (.cells #[.int .u8 2] 5))).below ((Below.refl _ _).alloc (Nat.le_refl _) (.cells #[.int .u8 1, .int .i64 5, .int .i64 0] 37))
    simpa using h2
  · have h := bytes_one ((w.alloc (.cells #[.int .u8 1, .int .i64 5, .int .i64 0] 37)).alloc (.cells #[.int .u8 1] 5)) 2 ⟨by decide, by decide⟩
    have h2 := h.below ((Below.refl _ _).alloc (Nat.le_refl _) (.cells #[.int .u8 1, .int .i64 5, .int .i64 0] 37))
    simpa using h2
  · have h := vs_one (((w.alloc (.cells #[.int .u8 1, .int .i64 5, .int .i64 0] 37)).alloc (.cells #[.int .u8 1] 5)).alloc (.cells #[.int .u8 2] 5)) (1, 5, 0) five_ok
    simpa using h

theorem FOk.blk {w W W' : World} {fg c : Nat} {F : Fr} {K : Nat → Prop} (h : FOk w W fg c F K W') {b : Nat} {vs : List Value} (hb : Blk W b vs) (hk : K b) : Blk W' b vs := hb.touch h.2 (fun e => e hk)

theorem agaF_keeps (F : Fr) (l : Int) : (agaF F l).many = F.many ∧ (agaF F l).stk = F.stk ∧ (agaF F l).locs = F.locs ∧ (agaF F l).place = F.place := by
  unfold agaF begF
  split <;> exact ⟨rfl, rfl, rfl, rfl⟩

set_option maxRecDepth 100000 in
set_option maxHeartbeats 4000000 in
theorem awake_ok (w : World) : Calls Try.prog 7 #[] w fun e w' => e = .returned (.bool true) ∧ Below w.heap.size w w' := by
  have HA := Lib.hid (awake_at w)
  obtain ⟨b5, hb5⟩ : ∃ b5, w.heap.size = b5 := ⟨_, rfl⟩
  go_enter Try.func7, Try.ntmps7
  go_wp2_with fail
  obtain ⟨W, hW, hB, k5, h0, h1, h2⟩ := HA.out
  rw [hb5] at hB k5 h0 h1 h2
  rw [hW]
  have HB := Lib.hid hB
  have HB5 := Lib.hid hb5
  clear hW HA hB hb5
  refine (fo_new W _ _ _ 1 1 1 1 1 1 [1] [2] [(1, 5, 0)] h0 h1 h2 (by omega) (by omega) (by omega) ok1).mono ?_
  rintro e W1 ⟨fg, rfl, hf⟩
  have hb5W : b5 < W.heap.size := k5.l
  have k5 := k5.below hf.bw
  have hf := (hf.below ((Below.refl _ _).alloc (Nat.le_refl _) (.cells #[.int .u8 1] 5)))
  have hsl := bytes_one W1 1 ⟨by decide, by decide⟩
  have K5 := Lib.hid (k5.alloc (.cells #[.int .u8 1] 5))
  have HF := Lib.hid hf
  have HSL := Lib.hid hsl
  clear h0 h1 h2 hf hsl k5
  go_wp2_with fail
  refine (fo_new_no _ _ _ _ 1 0 0 _ _ _ [1] [] [] HSL.out (BytesAt.nil _ _) (VsAt.nil _ _) (by omega) (by omega) (by omega) (fun h => absurd h.1 (by decide))).mono ?_
  rintro e W2 ⟨rfl, hb⟩
  have K5 := Lib.hid (K5.out.below hb)
  have HF := Lib.hid (HF.out.below hb)
  clear hb HSL
  go_wp2_with fail
  have hg := fo_get HF.out 0
  have e1 : getV F1 0 = (1, 5, 0) := by decide
  have e2 : getB F1 0 = true := by decide
  unfold F1 at e1 e2
  rw [e1, e2] at hg
  refine hg.mono ?_
  rintro e W3 ⟨rfl, hb⟩
  have k5 := K5.out.below hb
  have hf := HF.out.below hb
  clear hb hg e1 e2 K5 HF
  have HF := Lib.hid (hf.alloc (.cells #[.int .u8 1, .int .i64 5, .int .i64 0] 37))
  have K5 := Lib.hid (k5.alloc (.cells #[.int .u8 1, .int .i64 5, .int .i64 0] 37))
  have KV := Lib.hid (Blk.new W3 #[.int .u8 1, .int .i64 5, .int .i64 0] 37)
  have hbv : b5 < W3.heap.size := k5.l
  clear hf k5
  unfold vagg
  dsimp only
  go_wp2_with fail
  obtain ⟨bv, hbv2⟩ : ∃ bv, W3.heap.size = bv := ⟨_, rfl⟩
  obtain ⟨X3, hX3⟩ : ∃ X3, W3.alloc (.cells #[.int .u8 1, .int .i64 5, .int .i64 0] 37) = X3 := ⟨_, rfl⟩
  rw [hX3] at HF K5 KV ⊢
  rw [hbv2] at HF KV ⊢
  clear hX3 hbv hbv2
  have hg := fo_get HF.out 1
  have e1 : getV F1 1 = (2, 0, 0) := by decide
  have e2 : getB F1 1 = true := by decide
  unfold F1 at e1 e2
  rw [e1, e2] at hg
  refine hg.mono ?_
  rintro e W4 ⟨rfl, hb⟩
  have k5 := K5.out.below hb
  have kv := KV.out.below hb
  have hf := HF.out.below hb
  clear hb hg e1 e2 K5 HF KV
  have HF := Lib.hid (hf.alloc (.cells #[.int .u8 2, .int .i64 0, .int .i64 0] 37))
  have K5 := Lib.hid (k5.alloc (.cells #[.int .u8 2, .int .i64 0, .int .i64 0] 37))
  have KV := Lib.hid (kv.alloc (.cells #[.int .u8 2, .int .i64 0, .int .i64 0] 37))
  have KW := Lib.hid (Blk.new W4 #[.int .u8 2, .int .i64 0, .int .i64 0] 37)
  have d0 : W4.cell? ⟨b5, 0, none⟩ = some (.int .u8 1) := k5.c 0 _ rfl
  have d1 : W4.cell? ⟨b5, 1, none⟩ = some (.int .i64 5) := k5.c 1 _ rfl
  have d2 : W4.cell? ⟨b5, 2, none⟩ = some (.int .i64 0) := k5.c 2 _ rfl
  have hl : b5 < W4.heap.size := k5.l
  clear hf k5 kv
  unfold vagg
  dsimp only
  go_wp2_with fail
  obtain ⟨bw, hbw2⟩ : ∃ bw, W4.heap.size = bw := ⟨_, rfl⟩
  obtain ⟨X4, hX4⟩ : ∃ X4, W4.alloc (.cells #[.int .u8 2, .int .i64 0, .int .i64 0] 37) = X4 := ⟨_, rfl⟩
  rw [hX4] at HF K5 KV KW ⊢
  rw [hbw2] at HF KW ⊢
  clear hX4 d0 d1 d2 hl hbw2
  have hs := fo_set HF.out 1 (1, 5, 0) five_ok
  have e1 : setB F1 1 (1, 5, 0) = false := by decide
  have e2 : setF F1 1 (1, 5, 0) = F1 := by unfold setF; rw [e1]; rfl
  unfold F1 at e1 e2
  rw [e1, e2] at hs
  refine hs.mono ?_
  rintro e W5 ⟨rfl, hf⟩
  have k5 := hf.blk K5.out (.inl (.inl hb5W))
  have kv := hf.blk KV.out (.inl (.inr rfl))
  have kw := hf.blk KW.out (.inr rfl)
  have H1 := Lib.hid hf.1
  have KS := Lib.hid (And.intro k5 (And.intro kv kw))
  clear hs e1 e2 hf k5 kv kw HF K5 KV KW
  go_wp2_with fail
  have t2 : (begF (newFr [1] [2] [(1, 5, 0)]) 3 2).turns 3 = 2 := by decide
  have SZ2 : Hid ((begF (newFr [1] [2] [(1, 5, 0)]) 3 2).many = 2 ∧ (begF (newFr [1] [2] [(1, 5, 0)]) 3 2).stk = []) := Lib.hid ⟨rfl, rfl⟩
  refine (fo_begin H1.out 3 2 ⟨by decide, by decide⟩ ⟨by decide, by decide⟩ (by omega)).mono ?_
  rintro e W6 ⟨rfl, hf⟩
  generalize begF (newFr [1] [2] [(1, 5, 0)]) 3 2 = F2 at *
  have k5 := hf.blk KS.out.1 (.inl (.inl hb5W))
  have kv := hf.blk KS.out.2.1 (.inl (.inr rfl))
  have kw := hf.blk KS.out.2.2 (.inr rfl)
  have H2 := Lib.hid hf.1
  have KS := Lib.hid (And.intro k5 (And.intro kv kw))
  have T2 := Lib.hid t2
  clear hf k5 kv kw H1 t2
  go_wp2_with fail
  have hs := fo_again H2.out 3 ⟨by decide, by decide⟩ (by omega)
  have t3 : (agaF F2 3).turns 3 = 1 := by unfold agaF; rw [T2.out, if_neg (by decide)]; unfold begF; dsimp only; rw [setT_same]; decide
  rw [T2.out] at hs
  refine hs.mono ?_
  rintro e W7 ⟨rfl, hf⟩
  have SZ3 := Lib.hid (And.intro ((agaF_keeps F2 3).1.trans SZ2.out.1) ((agaF_keeps F2 3).2.1.trans SZ2.out.2))
  generalize agaF F2 3 = F3 at *
  have k5 := hf.blk KS.out.1 (.inl (.inl hb5W))
  have kv := hf.blk KS.out.2.1 (.inl (.inr rfl))
  have kw := hf.blk KS.out.2.2 (.inr rfl)
  have H3 := Lib.hid hf.1
  have KS := Lib.hid (And.intro k5 (And.intro kv kw))
  have T3 := Lib.hid t3
  clear hf k5 kv kw H2 T2 t3 hs
  go_wp2_with fail
  have hs := fo_again H3.out 3 ⟨by decide, by decide⟩ (by omega)
  have t4 : (agaF F3 3).turns 3 = 0 := by unfold agaF; rw [T3.out, if_neg (by decide)]; unfold begF; dsimp only; rw [setT_same]; decide
  rw [T3.out] at hs
  refine hs.mono ?_
  rintro e W8 ⟨rfl, hf⟩
  have SZ4 := Lib.hid (And.intro ((agaF_keeps F3 3).1.trans SZ3.out.1) ((agaF_keeps F3 3).2.1.trans SZ3.out.2))
  generalize agaF F3 3 = F4 at *
  have k5 := hf.blk KS.out.1 (.inl (.inl hb5W))
  have kv := hf.blk KS.out.2.1 (.inl (.inr rfl))
  have kw := hf.blk KS.out.2.2 (.inr rfl)
  have H4 := Lib.hid hf.1
  have KS := Lib.hid (And.intro k5 (And.intro kv kw))
  have T4 := Lib.hid t4
  clear hf k5 kv kw H3 T3 t4 hs
  go_wp2_with fail
  have hs := fo_again H4.out 3 ⟨by decide, by decide⟩ (by omega)
  rw [T4.out] at hs
  refine hs.mono ?_
  rintro e W9 ⟨rfl, hf⟩
  have k5 := hf.blk KS.out.1 (.inl (.inl hb5W))
  have kv := hf.blk KS.out.2.1 (.inl (.inr rfl))
  have kw := hf.blk KS.out.2.2 (.inr rfl)
  have H5 := Lib.hid hf.1
  have d0 : W9.cell? ⟨b5, 0, none⟩ = some (.int .u8 1) := k5.c 0 _ rfl
  have d1 : W9.cell? ⟨b5, 1, none⟩ = some (.int .i64 5) := k5.c 1 _ rfl
  have d2 : W9.cell? ⟨b5, 2, none⟩ = some (.int .i64 0) := k5.c 2 _ rfl
  have v0 : W9.cell? ⟨bv, 0, none⟩ = some (.int .u8 1) := kv.c 0 _ rfl
  have v1 : W9.cell? ⟨bv, 1, none⟩ = some (.int .i64 5) := kv.c 1 _ rfl
  have v2 : W9.cell? ⟨bv, 2, none⟩ = some (.int .i64 0) := kv.c 2 _ rfl
  have w0 : W9.cell? ⟨bw, 0, none⟩ = some (.int .u8 2) := kw.c 0 _ rfl
  have w1 : W9.cell? ⟨bw, 1, none⟩ = some (.int .i64 0) := kw.c 1 _ rfl
  have w2 : W9.cell? ⟨bw, 2, none⟩ = some (.int .i64 0) := kw.c 2 _ rfl
  clear hf k5 kv kw H4 hs KS
  go_wp2_with fail
  have hz := fo_size H5.out
  rw [(agaF_keeps F4 3).1, (agaF_keeps F4 3).2.1, SZ4.out.1, SZ4.out.2] at hz
  refine hz.mono ?_
  rintro e W10 ⟨rfl, nk, rfl⟩
  go_wp2_with fail
  go_ret
  refine ⟨rfl, ?_⟩
  have hb := below_drewN H5.out.bw nk
  rw [HB5.out]
  exact HB.out.trans (hb.mono (by omega))
end Go.Proofs.Ythllfeogchbihaa
