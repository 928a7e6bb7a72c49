/- FramePlays: the document's own frame in memory, and the contracts of its functions. -/
import Derived.Test.YthllfeogchbihaaFrameH
import Derived.Deep.DeepCutAuto
namespace Go.Proofs.Ythllfeogchbihaa
open Go.RowKit
set_option linter.unusedSimpArgs false
set_option linter.unusedVariables false

/-- The turns, as the document holds them. -/
def tcs (l : List (Int × Int)) : List Value := l.flatMap fun p => [.int .i64 p.1, .int .i64 p.2]
theorem tcs_length (l : List (Int × Int)) : (tcs l).length = l.length * 2 := by
  induction l with
  | nil => rfl
  | cons v l ih =>
    have : tcs (v :: l) = .int .i64 v.1 :: .int .i64 v.2 :: tcs l := rfl
    rw [this]; simp only [List.length_cons, ih]; omega
theorem tcs_append (l m : List (Int × Int)) : tcs (l ++ m) = tcs l ++ tcs m := List.flatMap_append
theorem tcs_get (l : List (Int × Int)) : ∀ i, (h : i < l.length) → (tcs l)[i * 2]? = some (.int .i64 l[i].1) ∧ (tcs l)[i * 2 + 1]? = some (.int .i64 l[i].2) := by
  induction l with
  | nil => intro i h; simp at h
  | cons v l ih =>
    intro i h
    have e0 : tcs (v :: l) = .int .i64 v.1 :: .int .i64 v.2 :: tcs l := rfl
    rw [e0]
    cases i with
    | zero => exact ⟨rfl, rfl⟩
    | succ i =>
      obtain ⟨a, b⟩ := ih i (by simpa using h)
      have e : (i + 1) * 2 = i * 2 + 1 + 1 := by omega
      rw [e]
      refine ⟨?_, ?_⟩
      · simpa only [List.getElem?_cons_succ, List.getElem_cons_succ] using a
      · have e2 : i * 2 + 1 + 1 + 1 = (i * 2 + 1) + 1 + 1 := by omega
        rw [e2]
        simpa only [List.getElem?_cons_succ, List.getElem_cons_succ] using b
/-- How many turns a list tells. -/
def look (tl : List (Int × Int)) (k : Int) : Int := ((tl.find? fun p => p.1 == k).map Prod.snd).getD 0
def TL (T : Int → Int) (tl : List (Int × Int)) : Prop := (∀ k, look tl k = T k) ∧ ∀ p ∈ tl, I64 p.1 ∧ 0 < p.2 ∧ p.2 ≤ 9223372036854775807
/-- What Begin makes of it. -/
def drop (tl : List (Int × Int)) (l : Int) : List (Int × Int) := tl.filter fun p => p.1 != l
def begL (tl : List (Int × Int)) (l t : Int) : List (Int × Int) := drop tl l ++ if 0 < t then [(l, t)] else []
theorem look_drop (tl : List (Int × Int)) (l k : Int) : look (drop tl l) k = if k = l then 0 else look tl k := by
  induction tl with
  | nil => simp [look, drop]
  | cons p tl ih =>
    unfold look drop at ih ⊢
    by_cases h : p.1 = l
    · have e : (p.1 != l) = false := by simp [h]
      rw [List.filter_cons, e, if_neg (by decide), ih]
      by_cases hk : k = l
      · rw [if_pos hk, if_pos hk]
      · rw [if_neg hk, if_neg hk, List.find?_cons]
        have e2 : (p.1 == k) = false := by rw [beq_eq_false_iff_ne]; omega
        rw [e2]
    · have e : (p.1 != l) = true := by simp [h]
      rw [List.filter_cons, e, if_pos rfl, List.find?_cons, List.find?_cons]
      by_cases h2 : p.1 = k
      · have e2 : (p.1 == k) = true := by simp [h2]
        rw [e2]
        dsimp only
        rw [if_neg (by omega)]
      · have e2 : (p.1 == k) = false := by rw [beq_eq_false_iff_ne]; exact h2
        rw [e2]
        exact ih
theorem look_append (a b : List (Int × Int)) (k : Int) (h : a.find? (fun p => p.1 == k) = none) : look (a ++ b) k = look b k := by
  unfold look
  rw [List.find?_append, h, Option.none_or]
theorem begL_tl {T : Int → Int} {tl : List (Int × Int)} (h : TL T tl) {l t : Int} (hl : I64 l) (ht : I64 t) : TL (setT T l t) (begL tl l t) := by
  have hd : ∀ p ∈ drop tl l, p ∈ tl ∧ p.1 ≠ l := by
    intro p hp
    unfold drop at hp
    rw [List.mem_filter] at hp
    exact ⟨hp.1, by simpa using hp.2⟩
  refine ⟨fun k => ?_, fun p hp => ?_⟩
  · by_cases hk : k = l
    · subst hk
      rw [setT_same]
      unfold begL
      rw [look_append _ _ _ (by rw [List.find?_eq_none]; intro p hp; have := (hd p hp).2; simpa using this)]
      split
      · simp [look]
      · rfl
    · rw [setT_other _ _ hk, ← h.1 k]
      have e := look_drop tl l k
      rw [if_neg hk] at e
      rw [← e]
      unfold begL
      cases hf : (drop tl l).find? (fun p => p.1 == k) with
      | none =>
        rw [look_append _ _ _ hf]
        have e2 : look (drop tl l) k = 0 := by unfold look; rw [hf]; rfl
        rw [e2]
        split
        · unfold look
          rw [List.find?_cons]
          have e3 : (l == k) = false := by rw [beq_eq_false_iff_ne]; exact fun e => hk e.symm
          dsimp only
          rw [e3]
          rfl
        · rfl
      | some q =>
        unfold look
        rw [List.find?_append, hf]
        rfl
  · unfold begL at hp
    rcases List.mem_append.1 hp with hp | hp
    · exact h.2 p (hd p hp).1
    · split at hp
      · rename_i h0
        rw [List.mem_singleton] at hp
        subst hp
        exact ⟨hl, h0, ht.2⟩
      · cases hp
theorem begL_length (tl : List (Int × Int)) (l t : Int) : (begL tl l t).length ≤ tl.length + 1 := by
  unfold begL drop
  have := List.length_filter_le (fun p : Int × Int => p.1 != l) tl
  rw [List.length_append]
  split <;> simp <;> omega
/-- Where the first entry of a loop is. -/
theorem look_hit {tl : List (Int × Int)} {l : Int} {k : Nat} (hk : k < tl.length) (h : ∀ j (hj : j < tl.length), j < k → tl[j].1 ≠ l) (he : tl[k].1 = l) : look tl l = tl[k].2 := by
  unfold look
  have : tl.find? (fun p => p.1 == l) = some tl[k] := by
    rw [List.find?_eq_some_iff_getElem]
    refine ⟨by simp [he], k, hk, rfl, fun j hj => ?_⟩
    have := h j (by omega) hj
    simpa using this
  rw [this]
  rfl
theorem look_miss {tl : List (Int × Int)} {l : Int} (h : ∀ j (hj : j < tl.length), tl[j].1 ≠ l) : look tl l = 0 := by
  unfold look
  have : tl.find? (fun p => p.1 == l) = none := by
    rw [List.find?_eq_none]
    intro p hp
    obtain ⟨j, hj, rfl⟩ := List.mem_iff_getElem.1 hp
    have := h j hj
    simpa using this
  rw [this]
  rfl

/-- The document's frame in memory. -/
structure RfAt (W : World) (base rf c : Nat) (la sa ta : Value) (tl : List (Int × Int)) (F : Fr) : Prop where
  blk : Blk W rf [la, sa, .int .i64 F.place, ta]
  ll : F.locs.length = 16
  ml : F.many ≤ 16
  sl : F.stk.length ≤ 256
  rl : W.ownsRow base 37 3 la F.many (vcs (F.locs.take F.many))
  rs : W.ownsRow base 37 3 sa F.stk.length (vcs F.stk)
  rt : W.ownsRow base 66 2 ta tl.length (tcs tl)
  tt : TL F.turns tl
  tc : tl.length ≤ c
  vo : ∀ v ∈ F.locs, VOk v
  so : ∀ v ∈ F.stk, VOk v
  b1 : rf < base
  bs : base ≤ W.heap.size
  d1 : ∀ b, la.ownBlock = some b → sa.ownBlock ≠ some b
  d2 : ∀ b, la.ownBlock = some b → ta.ownBlock ≠ some b
  d3 : ∀ b, sa.ownBlock = some b → ta.ownBlock ≠ some b
/-- Its blocks. -/
def RF (rf : Nat) (la sa ta : Value) : Nat → Prop := fun b => b = rf ∨ la.ownBlock = some b ∨ sa.ownBlock = some b ∨ ta.ownBlock = some b
section
variable {W : World} {base rf c : Nat} {la sa ta : Value} {tl : List (Int × Int)} {F : Fr}
theorem row_touch {S : Nat → Prop} {A B : World} (t : Touch S A B) {base : Nat} {e : TypeId} {size : Nat} {v : Value} {n : Nat} {xs : List Value} (h : A.ownsRow base e size v n xs) (hs : ∀ b, v.ownBlock = some b → ¬ S b) : B.ownsRow base e size v n xs :=
  t.row h (fun g o c e => hs g (by rw [e]; rfl))
theorem RfAt.touch (h : RfAt W base rf c la sa ta tl F) {S : Nat → Prop} {W' : World} (t : Touch S W W') (hs : ∀ b, RF rf la sa ta b → ¬ S b) : RfAt W' base rf c la sa ta tl F :=
  { h with blk := h.blk.touch t (hs _ (.inl rfl)), rl := row_touch t h.rl (fun b e => hs b (.inr (.inl e))), rs := row_touch t h.rs (fun b e => hs b (.inr (.inr (.inl e)))), rt := row_touch t h.rt (fun b e => hs b (.inr (.inr (.inr e)))), bs := Nat.le_trans h.bs t.size }
theorem RfAt.below (h : RfAt W base rf c la sa ta tl F) {W' : World} (hb : Below W.heap.size W W') : RfAt W' base rf c la sa ta tl F :=
  h.touch (Touch.of_below hb (Nat.le_refl _) (fun _ => False)) (fun _ _ e => e)
theorem RfAt.foot (h : RfAt W base rf c la sa ta tl F) : ∀ b, RF rf la sa ta b → b < W.heap.size := by
  rintro b (rfl | e | e | e)
  · exact h.blk.l
  · exact (h.rl.lt b e).2
  · exact (h.rs.lt b e).2
  · exact (h.rt.lt b e).2
theorem RfAt.foot2 (h : RfAt W base rf c la sa ta tl F) : ∀ b, RF rf la sa ta b → rf ≤ b := by
  have := h.b1
  rintro b (rfl | e | e | e)
  · exact Nat.le_refl _
  · have := (h.rl.lt b e).1; omega
  · have := (h.rs.lt b e).1; omega
  · have := (h.rt.lt b e).1; omega
theorem row_form {base : Nat} {e : TypeId} {size : Nat} {v : Value} {n : Nat} {xs : List Value} (h : W.ownsRow base e size v n xs) : ∃ A cap, v = .slice A n cap := by
  rcases h.2 with ⟨e, e2⟩ | ⟨g, cap, cur, e, -⟩
  · exact ⟨none, 0, by rw [e, e2]⟩
  · exact ⟨_, _, e⟩
theorem row_some {base : Nat} {e : TypeId} {size : Nat} {v : Value} {n : Nat} {xs : List Value} (h : W.ownsRow base e size v n xs) (hn : 0 < n) : ∃ g cap, v = .slice (some ⟨g, 0, none⟩) n cap ∧ n ≤ cap ∧ base ≤ g ∧ g < W.heap.size := by
  rcases h.2 with ⟨e, e2⟩ | ⟨g, cap, cur, e, hb, hc, hcap, -⟩
  · omega
  · exact ⟨g, cap, e, hcap, hb, (Array.getElem?_eq_some_iff.1 hc).1⟩

/-! kind -/
theorem rkind_any (k : Int) (w : World) (h0 : 0 ≤ k) (h1 : k ≤ 255) : Calls Try.prog 25 #[.int .u8 k] w fun e w' => e = .returned (.bool (kindB k)) ∧ w' = w := by
  rcases (show k = 1 ∨ k = 2 ∨ k = 3 ∨ (k ≠ 1 ∧ k ≠ 2 ∧ k ≠ 3) by omega) with rfl | rfl | rfl | ⟨h2, h3, h4⟩
  · have HS : Hid (kindB 1 = true) := Lib.hid (by decide)
    go_enter Try.func25, Try.ntmps25
    go_wp2_with fail
    go_ret
    exact ⟨by rw [HS.out]; rfl, rfl⟩
  · have HS : Hid (kindB 2 = true) := Lib.hid (by decide)
    go_enter Try.func25, Try.ntmps25
    go_wp2_with fail
    go_ret
    exact ⟨by rw [HS.out]; rfl, rfl⟩
  · have HS : Hid (kindB 3 = true) := Lib.hid (by decide)
    go_enter Try.func25, Try.ntmps25
    go_wp2_with fail
    go_ret
    exact ⟨by rw [HS.out]; rfl, rfl⟩
  · have HS : Hid (kindB k = false) := Lib.hid (decide_eq_false (by omega))
    have e1 : (k == 1) = false := by rw [beq_eq_false_iff_ne]; exact h2
    have e2 : (k == 2) = false := by rw [beq_eq_false_iff_ne]; exact h3
    have e3 : (k == 3) = false := by rw [beq_eq_false_iff_ne]; exact h4
    clear h2 h3 h4
    go_enter Try.func25, Try.ntmps25
    go_wp2_with fail
    go_ret
    exact ⟨by rw [HS.out]; rfl, rfl⟩
/-! Size -/
theorem rsize_at (h : RfAt W base rf c la sa ta tl F) :
    Calls Try.prog 19 #[.pointer (some ⟨rf, 0, none⟩)] W fun e w' => e = .returned (.int .i64 ((F.many : Int) + (F.stk.length : Int))) ∧ ∃ k, w' = W.drewN k := by
  obtain ⟨A1, c1, e1⟩ := row_form h.rl
  obtain ⟨A2, c2, e2⟩ := row_form h.rs
  have hc0 := h.blk.c 0 _ rfl
  have hc1 := h.blk.c 1 _ rfl
  rw [e1] at hc0
  rw [e2] at hc1
  have hl := h.blk.l
  have hm := h.ml
  have hs := h.sl
  generalize F.many = m at *
  generalize F.stk.length = n at *
  have m1 : (m : Int) ≤ 16 := by omega
  have n1 : (n : Int) ≤ 256 := by omega
  have s1 : IntKind.i64.wrap ((m : Int) + (n : Int)) = (m : Int) + (n : Int) := IntWalk.i64_in _ (by omega)
  clear h e1 e2
  go_enter Try.func19, Try.ntmps19
  go_wp2_with fail
  go_quiet (fail)
  go_wp2_with fail
  go_ret
  exact ⟨rfl, _, rfl⟩
/-! Top -/
theorem rtop_at (h : RfAt W base rf c la sa ta tl F) :
    Calls Try.prog 20 #[.pointer (some ⟨rf, 0, none⟩)] W fun e W' => e = .returned (.tuple #[vagg (topV F), .bool (topB F)]) ∧ Below W.heap.size W W' := by
  have hl := h.blk.l
  have hm := h.blk.c 1 _ rfl
  rcases List.eq_nil_or_concat F.stk with e | ⟨l, v, e⟩
  · have e1 : topB F = false := by unfold topB; rw [e]; rfl
    have e2 : topV F = zv := by unfold topV; rw [e]; rfl
    rw [e1, e2]
    obtain ⟨A2, c2, e3⟩ := row_form h.rs
    rw [e] at e3
    rw [e3] at hm
    simp only [List.length_nil] at hm
    clear h e1 e2 e3 e
    unfold vagg zv
    dsimp only
    go_enter Try.func20, Try.ntmps20
    go_wp2_with fail
    exact bodyPost_ret (v := .tuple #[.agg #[.int .u8 0, .int .i64 0, .int .i64 0], .bool false]) (by simp [results, Try.results20, go_sem]) rfl ⟨rfl, (Below.refl _ _).alloc (Nat.le_refl _) _⟩
  · rw [List.concat_eq_append] at e
    have e1 : topB F = true := by unfold topB; rw [e]; simp
    have e2 : topV F = v := by unfold topV; rw [e]; simp
    rw [e1, e2]
    have hlen : F.stk.length = l.length + 1 := by rw [e]; simp
    have hsl := h.sl
    have hrs := h.rs
    obtain ⟨g, cap, e3, hcap, hgb, hgl⟩ := row_some hrs (by omega)
    rw [e3] at hm hrs
    obtain ⟨a0, a1, a2, -⟩ := rowcells hrs (i := l.length) (by omega)
    have hv : F.stk[l.length]'(by omega) = v := by simp [e]
    rw [hv] at a0 a1 a2
    rw [hlen] at hm hsl
    have hne : ¬ g = rf := by have := h.b1; omega
    unfold vagg
    clear hv hlen e hrs e3 e1 e2 h
    generalize v.1 = x0 at *
    generalize v.2.1 = x1 at *
    generalize v.2.2 = x2 at *
    generalize l.length = q at *
    have q1 : (q : Int) ≤ 256 := by omega
    go_enter Try.func20, Try.ntmps20
    go_wp2_with fail
    go_region
    all_goals
      go_wp2_with fail
      refine bodyPost_ret (v := .tuple #[.agg #[.int .u8 x0, .int .i64 x1, .int .i64 x2], .bool true]) (by simp [results, Try.results20, go_sem]) rfl ⟨rfl, ?_⟩
      exact below_drew ((Below.refl W.heap.size W).alloc (Nat.le_refl _) (.cells #[.int .u8 x0, .int .i64 x1, .int .i64 x2] 37))
/-! Get -/
theorem rget_at (h : RfAt W base rf c la sa ta tl F) (i : Int) :
    Calls Try.prog 26 #[.pointer (some ⟨rf, 0, none⟩), .int .i64 i] W fun e W' => e = .returned (.tuple #[vagg (getV F i), .bool (getB F i)]) ∧ Below W.heap.size W W' := by
  have hl := h.blk.l
  have hm := h.blk.c 0 _ rfl
  by_cases hi : 0 ≤ i ∧ i < F.many
  · obtain ⟨k, rfl⟩ := Int.eq_ofNat_of_zero_le hi.1
    have hk : k < F.locs.length := by rw [h.ll]; have := h.ml; omega
    have e1 : getB F k = true := decide_eq_true hi
    have e2 : getV F k = F.locs[k] := by unfold getV; rw [e1, if_pos rfl, Int.toNat_natCast, List.getElem?_eq_getElem hk, Option.getD_some]
    rw [e1, e2]
    have hrl := h.rl
    obtain ⟨g, cap, e3, hcap, hgb, hgl⟩ := row_some hrl (by omega)
    rw [e3] at hm hrl
    have hkt : k < (F.locs.take F.many).length := by rw [List.length_take]; omega
    obtain ⟨a0, a1, a2, -⟩ := rowcells hrl hkt
    rw [List.getElem_take] at a0 a1 a2
    have hml := h.ml
    have b1 : (k : Int) < (F.many : Int) := by omega
    have b2 : (F.many : Int) ≤ 16 := by omega
    have hne : ¬ g = rf := by have := h.b1; omega
    unfold vagg
    clear hrl e3 e1 e2 h hi
    generalize F.locs[k].1 = x0 at *
    generalize F.locs[k].2.1 = x1 at *
    generalize F.locs[k].2.2 = x2 at *
    clear hkt
    generalize F.many = M at *
    go_enter Try.func26, Try.ntmps26
    go_wp2_with fail
    exact bodyPost_ret (v := .tuple #[.agg #[.int .u8 x0, .int .i64 x1, .int .i64 x2], .bool true]) (by simp [results, Try.results26, go_sem]) rfl ⟨rfl, (Below.refl _ _).alloc (Nat.le_refl _) _⟩
  · have e1 : getB F i = false := decide_eq_false hi
    have e2 : getV F i = zv := by unfold getV; rw [e1]; rfl
    rw [e1, e2]
    obtain ⟨A2, c2, e3⟩ := row_form h.rl
    rw [e3] at hm
    have hml := h.ml
    have b2 : (F.many : Int) ≤ 16 := by omega
    unfold vagg zv
    dsimp only
    clear e1 e2 e3 h
    generalize F.many = M at *
    by_cases h0 : i < 0
    · clear hi
      go_enter Try.func26, Try.ntmps26
      go_wp2_with fail
      exact bodyPost_ret (v := .tuple #[.agg #[.int .u8 0, .int .i64 0, .int .i64 0], .bool false]) (by simp [results, Try.results26, go_sem]) rfl ⟨rfl, (Below.refl _ _).alloc (Nat.le_refl _) _⟩
    · have h1 : (M : Int) ≤ i := by omega
      have h2 : 0 ≤ i := by omega
      clear hi h0
      go_enter Try.func26, Try.ntmps26
      go_wp2_with fail
      exact bodyPost_ret (v := .tuple #[.agg #[.int .u8 0, .int .i64 0, .int .i64 0], .bool false]) (by simp [results, Try.results26, go_sem]) rfl ⟨rfl, (Below.refl _ _).alloc (Nat.le_refl _) _⟩
end
end Go.Proofs.Ythllfeogchbihaa
