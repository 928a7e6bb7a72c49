/- Parts of the walk, joined. -/
import Derived.Test.YtkhgpeejmbfmjaaPart04
import Derived.Test.YtkhgpeejmbfmjaaPart02
import Derived.Test.YtkhgpeejmbfmjaaPart03
import Derived.Test.YtkhgpeejmbfmjaaPart01
import Derived.Lib.QuietBelow
import Derived.BigQuiet
import Derived.Deep.DeepCutAuto
import Derived.Laws.EntriesVeiled
import Derived.Deep.WholeRow
/- The four functions on pairs of package gauss and the measure, as contracts: what they return, for all parts. -/
namespace Go.Proofs.Ytkhgpeejmbfmjaa
open Go.RowKit
set_option linter.unusedSimpArgs false
set_option linter.unusedVariables false
set_option maxRecDepth 100000

theorem add_any (a b c d : Int) (w : World) :
    Calls Try.prog 65 #[.agg #[.int .i64 a, .int .i64 b], .agg #[.int .i64 c, .int .i64 d]] w fun e w' =>
      e = .returned (.tuple #[.agg #[.int .i64 (addV a b c d).1, .int .i64 (addV a b c d).2.1], .bool (addV a b c d).2.2]) ∧ Below w.heap.size w w' := by
  have hm := fun w => both_any 77 _ _ (fun args w => by kernel_rfl) add_do add_bd a b c d w
  have HM := Lib.hid hm
  clear hm
  go_enter Try.func65, Try.ntmps65
  go_wp2_with fail
  refine (HM.out _).mono ?_
  rintro e w1 ⟨rfl, hb⟩
  have hB : Below w.heap.size w w1 := Below.after (by go_grown) hb
  obtain ⟨hc, hf⟩ := bcell hb
  have hz : w.heap.size + 2 < w1.heap.size := by have := hb.size; simp at this; omega
  go_wp2_with fail
  refine bodyPost_ret (v := .tuple #[.agg #[.int .i64 (addV a b c d).1, .int .i64 (addV a b c d).2.1], .bool (addV a b c d).2.2]) (by simp [results, Try.results65, go_sem, hc, addV]) rfl ⟨rfl, ?_⟩
  go_grown

theorem prod_any (a b c d : Int) (w : World) :
    Calls Try.prog 66 #[.agg #[.int .i64 a, .int .i64 b], .agg #[.int .i64 c, .int .i64 d]] w fun e w' =>
      e = .returned (.tuple #[.agg #[.int .i64 (mulV a b c d).1, .int .i64 (mulV a b c d).2.1], .bool (mulV a b c d).2.2]) ∧ Below w.heap.size w w' := by
  have hm := fun w => both_any 78 _ _ (fun args w => by kernel_rfl) mul_do prod_bd a b c d w
  have HM := Lib.hid hm
  clear hm
  go_enter Try.func66, Try.ntmps66
  go_wp2_with fail
  refine (HM.out _).mono ?_
  rintro e w1 ⟨rfl, hb⟩
  have hB : Below w.heap.size w w1 := Below.after (by go_grown) hb
  obtain ⟨hc, hf⟩ := bcell hb
  have hz : w.heap.size + 2 < w1.heap.size := by have := hb.size; simp at this; omega
  go_wp2_with fail
  refine bodyPost_ret (v := .tuple #[.agg #[.int .i64 (mulV a b c d).1, .int .i64 (mulV a b c d).2.1], .bool (mulV a b c d).2.2]) (by simp [results, Try.results66, go_sem, hc, mulV]) rfl ⟨rfl, ?_⟩
  go_grown

theorem conj_any (a b : Int) (w : World) :
    Calls Try.prog 64 #[.agg #[.int .i64 a, .int .i64 b]] w fun e w' =>
      e = .returned (.tuple #[.agg #[.int .i64 (conjV a b).1, .int .i64 (conjV a b).2.1], .bool (conjV a b).2.2]) ∧ Below w.heap.size w w' := by
  have hm := fun w => both_any 76 _ _ (fun args w => by kernel_rfl) conj_do conj_bd a b a b w
  have HM := Lib.hid hm
  clear hm
  go_enter Try.func64, Try.ntmps64
  go_wp2_with fail
  refine (HM.out _).mono ?_
  rintro e w1 ⟨rfl, hb⟩
  have hB : Below w.heap.size w w1 := Below.after (by go_grown) hb
  obtain ⟨hc, hf⟩ := bcell hb
  have hz : w.heap.size + 1 < w1.heap.size := by have := hb.size; simp at this; omega
  go_wp2_with fail
  refine bodyPost_ret (v := .tuple #[.agg #[.int .i64 (conjV a b).1, .int .i64 (conjV a b).2.1], .bool (conjV a b).2.2]) (by simp [results, Try.results64, go_sem, hc, conjV]) rfl ⟨rfl, ?_⟩
  go_grown

end Go.Proofs.Ytkhgpeejmbfmjaa
/- The machine, plainly: what a call computes, with no program in sight. -/
namespace Go.Proofs.Ytkhgpeejmbfmjaa
open Go.RowKit
set_option linter.unusedSimpArgs false
set_option linter.unusedVariables false
set_option maxRecDepth 100000

/-- A method: its arguments' and locals' kinds, its result's, its instructions (operation, number). -/
structure Mt where
  args : List Int
  locs : List Int
  res : Int
  code : List (Int × Int)
/-- A module: its constants, its methods, its globals' kinds. -/
structure Md where
  pool : List V
  mts : List Mt
  gk : List Int
/-- The limits. -/
structure Lm where
  fuel : Int
  stack : Int
  heap : Int
/-- A machine at work. -/
structure Mc where
  frs : List Fr
  ms : List Nat
  hp : List (List Int)
  gl : List V
  fu : Int
  st : Int
  e : Int
  over : Bool
  out : Int × V

def zf : Fr := ⟨[], 0, [], 0, fun _ => 0⟩
def Mc.top (s : Mc) : Fr := s.frs.getLast?.getD zf
def Mc.upd (s : Mc) (F : Fr) : Mc := { s with frs := s.frs.dropLast ++ [F] }
def Mc.cant (s : Mc) : Mc := if s.e = 0 then { s with e := 40 } else s
def Mc.pop (s : Mc) (k : Int) : V × Mc := (popV s.top k, if popB s.top k then s.upd (popF s.top k) else s.cant)
def Mc.push (s : Mc) (v : V) : Mc := if s.e = 0 then (if pushB s.top v then s.upd (pushF s.top v) else s.cant) else s
def Mc.number (s : Mc) : Int × Mc := ((s.pop 1).1.2.1, (s.pop 1).2)
def Mc.pair (s : Mc) : (Int × Int) × Mc := ((s.pop 2).1.2, (s.pop 2).2)
/-- A pair pushed, or the trap. -/
def Mc.pushed (s : Mc) (p : Int × Int × Bool) : Int × Mc := if p.2.2 then (0, s.push (2, p.1, p.2.1)) else (3, s)
def vInt (n : Int) : V := (1, n, 0)
def mayV (v : V) : Bool := (decide (v.1 = 1) && decide (v.2.2 = 0)) || (decide (v.1 = 2) && mayB v.2.1 v.2.2)
def insideV (v : V) : Bool := mayV v || (decide (v.1 = 3) && (decide (0 ≤ v.2.1) && decide (v.2.2 = 0)))
def divV (a b : Int) : Int × Int := if b = 0 then (0, 1) else if a = -9223372036854775808 ∧ b = -1 then (a, 0) else (a.tdiv b, 0)
def remV (a b : Int) : Int × Int := (wrap64 (a - wrap64 ((divV a b).1 * b)), (divV a b).2)
/-- What an operation of two numbers comes to: the number, the trap. -/
def binV (op a b : Int) : Int × Int :=
  if op = 9 then (wrap64 (a + b), 0) else if op = 10 then (wrap64 (a - b), 0) else if op = 11 then (wrap64 (a * b), 0) else if op = 12 then divV a b else if op = 13 then remV a b
  else if op = 14 then (if a < b then 1 else 0, 0) else (if a = b then 1 else 0, 0)
def inB (n most : Int) : Bool := decide (0 ≤ n ∧ n ≤ most)
/-- May these be a frame's? As a Boolean. -/
def newB (ks ls : List Int) (vs : List V) : Bool := decide (ks.length = vs.length) && (decide (ks.length + ls.length ≤ 16) && ((ks.zip vs).all (fun x => kindB x.1 && decide (x.2.1 = x.1)) && ls.all kindB))
theorem newB_iff (ks ls : List Int) (vs : List V) : newB ks ls vs = true ↔ NewOk ks ls vs := by
  unfold newB NewOk
  simp only [Bool.and_eq_true, decide_eq_true_eq, List.all_eq_true]
  constructor
  · rintro ⟨h1, h2, h3, h4⟩
    refine ⟨h1, h2, fun i h h' => ?_, fun i h => h4 _ (List.getElem_mem h)⟩
    have hz : i < (ks.zip vs).length := by rw [List.length_zip]; omega
    have := h3 _ (List.getElem_mem hz)
    rw [List.getElem_zip] at this
    exact this
  · rintro ⟨h1, h2, h3, h4⟩
    refine ⟨h1, h2, fun x hx => ?_, fun x hx => ?_⟩
    · obtain ⟨i, hi, rfl⟩ := List.mem_iff_getElem.1 hx
      rw [List.getElem_zip]
      have hz := hi
      rw [List.length_zip] at hz
      exact h3 i (by omega) (by omega)
    · obtain ⟨i, hi, rfl⟩ := List.mem_iff_getElem.1 hx
      exact h4 i hi
/-- Arguments taken off the stack, the last one first. -/
def Mc.take (s : Mc) : List Int → List V × Mc
  | [] => ([], s)
  | k :: ks => ((s.pop k).1 :: ((s.pop k).2.take ks).1, ((s.pop k).2.take ks).2)
def Mc.call (m : Md) (s : Mc) (i : Int) : Mc :=
  if inB i (m.mts.length - 1) then
    match m.mts[i.toNat]? with
    | none => s
    | some x =>
      let t := s.take x.args.reverse
      let vs := t.1.reverse
      if newB x.args x.locs vs = true ∧ t.2.frs.length ≤ 256 then { t.2 with frs := t.2.frs ++ [newFr x.args x.locs vs], ms := t.2.ms ++ [i.toNat] } else t.2.cant
  else s.cant
def Md.at (m : Md) (i : Nat) : Mt := m.mts[i]?.getD ⟨[], [], 0, []⟩
def Mc.ret (m : Md) (s : Mc) : Mc :=
  let k := (m.at (s.ms.getLast?.getD 0)).res
  let t := s.pop k
  if (k ≠ 1 ∧ k ≠ 2) ∨ t.2.e ≠ 0 then t.2.cant
  else
    let u : Mc := { t.2 with frs := t.2.frs.dropLast, ms := t.2.ms.dropLast }
    if u.frs = [] then { u with out := (0, t.1), over := true } else u.push t.1
def Mc.array (l : Lm) (s : Mc) (n : Int) : Mc :=
  let h := Hp.mkArrs l.heap.toNat s.hp n
  let u : Mc := { s with hp := h }
  if s.e ≠ 0 then u else if Hp.mkErr l.heap.toNat s.hp n ≠ 0 then { u with e := 4 } else u.push (3, Hp.mkRef l.heap.toNat s.hp n, 0)
def Mc.move (m : Md) (s : Mc) (op a : Int) : Mc :=
  if op = 3 then
    let t := s.pop 0
    if t.2.e = 0 then (if setB t.2.top a t.1 then t.2.upd (setF t.2.top a t.1) else t.2.cant) else t.2
  else if op = 5 then
    let t := s.pop 0
    if t.2.e ≠ 0 ∨ inB a (t.2.gl.length - 1) = false ∨ (t.2.gl[a.toNat]?.getD zv).1 ≠ t.1.1 then t.2.cant else { t.2 with gl := t.2.gl.set a.toNat t.1 }
  else
    let is := if op = 1 then inB a (m.pool.length - 1) else if op = 2 then getB s.top a else inB a (s.gl.length - 1)
    let v := if is then (if op = 1 then m.pool[a.toNat]?.getD zv else if op = 2 then getV s.top a else s.gl[a.toNat]?.getD zv) else zv
    if is && insideV v then s.push v else s.cant
def Mc.juggle (s : Mc) (op : Int) : Mc :=
  let t := s.pop 0
  if op = 7 then (t.2.push t.1).push t.1
  else if op = 8 then
    let u := t.2.pop 0
    (u.2.push t.1).push u.1
  else t.2
def Mc.turn (m : Md) (s : Mc) (op a at_ : Int) : Mc :=
  if op = 26 then s.upd (goF s.top a)
  else if op = 27 then
    let t := s.number
    if t.1 = 0 then t.2.upd (goF t.2.top a) else t.2
  else if op = 28 then s.upd (begF s.top at_ a)
  else if op = 29 then
    let is := decide (s.top.turns a ≠ 0)
    let more := is && decide (0 < s.top.turns a - 1)
    let u := s.upd (agaF s.top a)
    let t := if is then u else u.cant
    if more then t.upd (goF t.top (wrap64 (a + 1))) else t
  else if op = 30 then s.call m a
  else if op = 31 then s.ret m
  else s.cant
def atV (h : List (List Int)) (ref i : Int) : Int × Bool :=
  match Hp.plA h ref i with
  | some (k, j) => (((h[k]?.getD [])[j]?).getD 0, true)
  | none => (0, false)
def putH (h : List (List Int)) (ref i v : Int) : List (List Int) :=
  match Hp.plA h ref i with
  | some (k, j) => h.set k ((h[k]?.getD []).set j v)
  | none => h
/-- One instruction: the trap, the machine. -/
def Mc.do_ (m : Md) (l : Lm) (s : Mc) (op a at_ : Int) : Int × Mc :=
  if op = 0 then (0, s)
  else if 1 ≤ op ∧ op ≤ 5 then (0, s.move m op a)
  else if 6 ≤ op ∧ op ≤ 8 then (0, s.juggle op)
  else if 9 ≤ op ∧ op ≤ 15 then
    let b := s.number
    let c := b.2.number
    let r := binV op c.1 b.1
    if r.2 ≠ 0 then (r.2, c.2) else (0, c.2.push (vInt r.1))
  else if op = 16 then
    let b := s.number
    let c := b.2.number
    c.2.pushed (if mayB c.1 b.1 then (c.1, b.1, true) else (0, 0, false))
  else if op = 17 then
    let p := s.pair
    (0, p.2.push (vInt p.1.1))
  else if op = 18 then
    let p := s.pair
    let q := (p.2.push (2, p.1.2, p.1.1)).pair
    (0, q.2.push (vInt q.1.1))
  else if op = 19 then
    let q := s.pair
    let p := q.2.pair
    p.2.pushed (addV p.1.1 p.1.2 q.1.1 q.1.2)
  else if op = 20 then
    let q := s.pair
    let p := q.2.pair
    p.2.pushed (mulV p.1.1 p.1.2 q.1.1 q.1.2)
  else if op = 21 then
    let q := s.pair
    q.2.pushed (conjV q.1.1 q.1.2)
  else if op = 22 then
    let n := s.number
    if n.1 < 0 ∨ a < n.1 then (2, n.2) else (0, n.2.array l n.1)
  else if op = 23 then
    let i := s.number
    let r := i.2.pop 3
    let v := atV r.2.hp r.1.2.1 i.1
    if v.2 then (0, r.2.push (vInt v.1)) else (2, r.2)
  else if op = 24 then
    let v := s.number
    let i := v.2.number
    let r := i.2.pop 3
    if r.2.e = 0 then (if (atV r.2.hp r.1.2.1 i.1).2 then (0, { r.2 with hp := putH r.2.hp r.1.2.1 i.1 v.1 }) else (2, r.2)) else (0, r.2)
  else if op = 25 then
    let r := s.pop 3
    if decide (0 ≤ r.1.2.1 ∧ r.1.2.1 ≤ r.2.hp.length) then (0, r.2.push (vInt (if 1 ≤ r.1.2.1 ∧ r.1.2.1 ≤ r.2.hp.length then ((r.2.hp[(r.1.2.1 - 1).toNat]?.getD []).length : Int) else 0))) else (2, r.2)
  else if op = 32 then (wrap64 (16 + a), s)
  else (0, s.turn m op a at_)
def Mc.size (s : Mc) : Int := (s.frs.map (fun F => (F.many : Int) + (F.stk.length : Int))).sum
/-- One step. -/
def Mc.next (m : Md) (l : Lm) (s : Mc) : Mc :=
  if l.stack < s.size then { s with e := 101 }
  else if s.fu = l.fuel then { s with e := 170 }
  else
    let s1 : Mc := { s with fu := s.fu + 1, st := max s.st s.size }
    let code := (m.at (s.ms.getLast?.getD 0)).code
    let p := s.top.place
    if inB p (code.length - 1) then
      let x := code[p.toNat]?.getD (0, 0)
      let r := (s1.upd (goF s1.top (wrap64 (p + 1)))).do_ m l x.1 x.2 p
      if r.1 ≠ 0 ∧ r.2.e = 0 then { r.2 with out := (r.1, zv), over := true } else r.2
    else { s1 with e := 40 }
end Go.Proofs.Ytkhgpeejmbfmjaa
/- The machine, plainly: other limits, as long as they are enough, change nothing. -/
namespace Go.Proofs.Ytkhgpeejmbfmjaa
open Go.RowKit
set_option linter.unusedSimpArgs false
set_option linter.unusedVariables false

theorem push_hp (s : Mc) (v : V) : (s.push v).hp = s.hp := by
  unfold Mc.push Mc.cant Mc.upd
  split
  · split
    · rfl
    · first | rfl | (split <;> rfl)
  · rfl
theorem mkArrs_used {r : Nat} {hp : List (List Int)} {n : Int} (hf : Hp.fitsB r hp n = true) : ((Hp.mkArrs r hp n).flatten.length : Int) = (hp.flatten.length : Int) + n := by
  have hf2 := hf
  unfold Hp.fitsB at hf2
  have hf2 := of_decide_eq_true hf2
  unfold Hp.mkArrs
  rw [if_pos hf, List.flatten_append, List.length_append]
  simp
  omega
theorem array_same {l l' : Lm} {s : Mc} {n : Int} (h : (s.array l n).e = 0) (hr : ((s.array l n).hp.flatten.length : Int) ≤ l'.heap) : s.array l' n = s.array l n := by
  have e0 : s.e = 0 := by
    rcases Classical.em (s.e = 0) with e | e
    · exact e
    · exfalso
      unfold Mc.array at h
      dsimp only at h
      rw [if_pos e] at h
      exact e h
  have e1 : Hp.mkErr l.heap.toNat s.hp n = 0 := by
    rcases Classical.em (Hp.mkErr l.heap.toNat s.hp n = 0) with e | e
    · exact e
    · exfalso
      unfold Mc.array at h
      dsimp only at h
      rw [if_neg (fun x => x e0), if_pos e] at h
      exact absurd h (by simp)
  have hf := (Hp.mkErr_zero _ _ _).1 e1
  have eh : (s.array l n).hp = Hp.mkArrs l.heap.toNat s.hp n := by
    unfold Mc.array
    dsimp only
    rw [if_neg (fun x => x e0), if_neg (fun x => x e1), push_hp]
  rw [eh, mkArrs_used hf] at hr
  have hf2 := hf
  unfold Hp.fitsB at hf2
  have hf2 := of_decide_eq_true hf2
  have hf' : Hp.fitsB l'.heap.toNat s.hp n = true := by
    unfold Hp.fitsB
    exact decide_eq_true ⟨hf2.1, hf2.2.1, by omega⟩
  have e1' : Hp.mkErr l'.heap.toNat s.hp n = 0 := (Hp.mkErr_zero _ _ _).2 hf'
  have ea : Hp.mkArrs l'.heap.toNat s.hp n = Hp.mkArrs l.heap.toNat s.hp n := by unfold Hp.mkArrs; rw [if_pos hf, if_pos hf']
  have er : Hp.mkRef l'.heap.toNat s.hp n = Hp.mkRef l.heap.toNat s.hp n := by unfold Hp.mkRef; rw [if_pos hf, if_pos hf']
  unfold Mc.array
  dsimp only
  simp only [e0, e1, e1', ea, er, ne_eq, not_true_eq_false, if_false]
theorem do_same {m : Md} {l l' : Lm} {s : Mc} {op a p : Int} (h : (s.do_ m l op a p).2.e = 0) (hr : ((s.do_ m l op a p).2.hp.flatten.length : Int) ≤ l'.heap) : s.do_ m l' op a p = s.do_ m l op a p := by
  by_cases h22 : op = 22
  · subst h22
    unfold Mc.do_ at h hr ⊢
    simp only [show ¬ (22 : Int) = 0 by decide, show ¬ ((1 : Int) ≤ 22 ∧ (22 : Int) ≤ 5) by decide, show ¬ ((6 : Int) ≤ 22 ∧ (22 : Int) ≤ 8) by decide, show ¬ ((9 : Int) ≤ 22 ∧ (22 : Int) ≤ 15) by decide, show ¬ (22 : Int) = 16 by decide, show ¬ (22 : Int) = 17 by decide, show ¬ (22 : Int) = 18 by decide, show ¬ (22 : Int) = 19 by decide, show ¬ (22 : Int) = 20 by decide, show ¬ (22 : Int) = 21 by decide, if_false, if_true] at h hr ⊢
    split
    · rfl
    · rename_i hn
      rw [if_neg hn] at h hr
      rw [array_same h hr]
  · unfold Mc.do_
    simp only [if_neg h22]
theorem next_same {m : Md} {l l' : Lm} {s : Mc} (h : (s.next m l).e = 0) (hs : s.size ≤ l'.stack) (hf : s.fu ≠ l'.fuel) (hr : ((s.next m l).hp.flatten.length : Int) ≤ l'.heap) : s.next m l' = s.next m l := by
  unfold Mc.next at h hr ⊢
  dsimp only at h hr ⊢
  by_cases h1 : l.stack < s.size
  · rw [if_pos h1] at h
    exact absurd h (by simp)
  rw [if_neg h1] at h hr ⊢
  by_cases h2 : s.fu = l.fuel
  · rw [if_pos h2] at h
    exact absurd h (by simp)
  rw [if_neg h2] at h hr ⊢
  rw [if_neg (show ¬ l'.stack < s.size by omega), if_neg hf]
  split
  · rename_i hp
    rw [if_pos hp] at h hr
    generalize hq : Mc.do_ m l _ _ _ _ = q at h hr ⊢
    have hq2 := do_same (l' := l') (by rw [hq]; split at h <;> simpa using h) (by rw [hq]; split at hr <;> simpa using hr)
    rw [hq] at hq2
    rw [hq2]
  · rfl
end Go.Proofs.Ytkhgpeejmbfmjaa
/- The machine, plainly: what every instruction leaves. -/
namespace Go.Proofs.Ytkhgpeejmbfmjaa
open Go.RowKit
set_option linter.unusedSimpArgs false
set_option linter.unusedVariables false

/-- What an instruction leaves: fuel and stack told by next alone; the heap's words only grow; an error stays; the globals' kinds stay. -/
structure Ext (r : Nat) (s t : Mc) : Prop where
  fu : t.fu = s.fu
  st : t.st = s.st
  us : s.hp.flatten.length ≤ t.hp.flatten.length
  e : t.e = 0 → s.e = 0
  gk : t.gl.map (·.1) = s.gl.map (·.1)
  ub : s.hp.flatten.length ≤ r → t.hp.flatten.length ≤ r
section
variable {r : Nat}
theorem Ext.refl (s : Mc) : Ext r s s := ⟨rfl, rfl, Nat.le_refl _, id, rfl, id⟩
theorem Ext.trans {s t u : Mc} (h : Ext r s t) (k : Ext r t u) : Ext r s u := ⟨k.fu.trans h.fu, k.st.trans h.st, Nat.le_trans h.us k.us, fun e => h.e (k.e e), k.gk.trans h.gk, fun e => k.ub (h.ub e)⟩
theorem ext_cant (s : Mc) : Ext r s s.cant := by
  unfold Mc.cant
  split
  · exact ⟨rfl, rfl, Nat.le_refl _, fun e => absurd e (by simp), rfl, id⟩
  · exact Ext.refl s
theorem ext_upd (s : Mc) (F : Fr) : Ext r s (s.upd F) := ⟨rfl, rfl, Nat.le_refl _, id, rfl, id⟩
theorem ext_pop (s : Mc) (k : Int) : Ext r s (s.pop k).2 := by
  unfold Mc.pop
  dsimp only
  split
  · exact ext_upd _ _
  · exact ext_cant s
theorem ext_push (s : Mc) (v : V) : Ext r s (s.push v) := by
  unfold Mc.push
  split
  · split
    · exact ext_upd _ _
    · exact ext_cant s
  · exact Ext.refl s
theorem ext_number (s : Mc) : Ext r s s.number.2 := ext_pop s 1
theorem ext_pair (s : Mc) : Ext r s s.pair.2 := ext_pop s 2
theorem ext_pushed (s : Mc) (p : Int × Int × Bool) : Ext r s (s.pushed p).2 := by
  unfold Mc.pushed
  split
  · exact ext_push s _
  · exact Ext.refl s
theorem ext_take (ks : List Int) : ∀ s : Mc, Ext r s (s.take ks).2 := by
  induction ks with
  | nil => intro s; exact Ext.refl s
  | cons k ks ih => intro s; exact (ext_pop s k).trans (ih _)
theorem ext_call (m : Md) (s : Mc) (i : Int) : Ext r s (s.call m i) := by
  unfold Mc.call
  split
  · split
    · exact Ext.refl s
    · dsimp only
      split
      · have h := ext_take (r := r) (by assumption : Mt).args.reverse s
        exact ⟨h.fu, h.st, h.us, h.e, h.gk, h.ub⟩
      · exact (ext_take _ s).trans (ext_cant _)
  · exact ext_cant s
theorem ext_ret (m : Md) (s : Mc) : Ext r s (s.ret m) := by
  unfold Mc.ret
  dsimp only
  have h := ext_pop (r := r) s (m.at (s.ms.getLast?.getD 0)).res
  split
  · exact h.trans (ext_cant _)
  · split
    · exact ⟨h.fu, h.st, h.us, h.e, h.gk, h.ub⟩
    · refine Ext.trans ?_ (ext_push _ _)
      exact ⟨h.fu, h.st, h.us, h.e, h.gk, h.ub⟩
theorem mkArrs_le (r : Nat) (hp : List (List Int)) (n : Int) : hp.flatten.length ≤ (Hp.mkArrs r hp n).flatten.length := by
  unfold Hp.mkArrs
  split
  · rw [List.flatten_append, List.length_append]; omega
  · exact Nat.le_refl _
theorem ext_array (l : Lm) (hl : l.heap.toNat ≤ r) (s : Mc) (n : Int) : Ext r s (s.array l n) := by
  unfold Mc.array
  dsimp only
  have h := mkArrs_le l.heap.toNat s.hp n
  have hu : s.hp.flatten.length ≤ r → (Hp.mkArrs l.heap.toNat s.hp n).flatten.length ≤ r := by
    intro hs
    by_cases hf : Hp.fitsB l.heap.toNat s.hp n = true
    · have e1 := mkArrs_used hf
      unfold Hp.fitsB at hf
      have hf := of_decide_eq_true hf
      omega
    · unfold Hp.mkArrs
      rw [if_neg hf]
      exact hs
  split
  · rename_i e0
    exact ⟨rfl, rfl, h, fun e => e, rfl, hu⟩
  · split
    · exact ⟨rfl, rfl, h, fun e => absurd e (by simp), rfl, hu⟩
    · refine Ext.trans ?_ (ext_push _ _)
      exact ⟨rfl, rfl, h, fun e => e, rfl, hu⟩
theorem ext_juggle (s : Mc) (op : Int) : Ext r s (s.juggle op) := by
  unfold Mc.juggle
  dsimp only
  split
  · exact ((ext_pop s 0).trans (ext_push _ _)).trans (ext_push _ _)
  · split
    · exact (((ext_pop s 0).trans (ext_pop _ 0)).trans (ext_push _ _)).trans (ext_push _ _)
    · exact ext_pop s 0
theorem gk_set (g : List V) (i : Nat) (v : V) (h : (g[i]?.getD zv).1 = v.1) : (g.set i v).map (·.1) = g.map (·.1) := by
  apply List.ext_getElem?
  intro j
  rw [List.getElem?_map, List.getElem?_map, List.getElem?_set]
  split
  · rename_i hij
    subst hij
    split
    · rename_i hl
      rw [List.getElem?_eq_getElem hl] at h ⊢
      simp only [Option.map_some]
      rw [← h]
      rfl
    · rename_i hl
      rw [List.getElem?_eq_none (by omega)]
      try rfl
  · rfl
theorem ext_move (m : Md) (s : Mc) (op a : Int) : Ext r s (s.move m op a) := by
  unfold Mc.move
  split
  · dsimp only
    split
    · split
      · exact (ext_pop s 0).trans (ext_upd _ _)
      · exact (ext_pop s 0).trans (ext_cant _)
    · exact ext_pop s 0
  · split
    · dsimp only
      split
      · exact (ext_pop s 0).trans (ext_cant _)
      · rename_i h
        refine (ext_pop s 0).trans ⟨rfl, rfl, Nat.le_refl _, id, gk_set _ _ _ ?_, id⟩
        exact Classical.byContradiction (fun e => h (.inr (.inr e)))
    · have h : ∀ (b : Bool) (v : V), Ext r s (if b = true then s.push v else s.cant) := by
        intro b v
        cases b
        · exact ext_cant s
        · exact ext_push s v
      exact h _ _
theorem ext_turn (m : Md) (s : Mc) (op a p : Int) : Ext r s (s.turn m op a p) := by
  unfold Mc.turn
  split
  · exact ext_upd _ _
  · split
    · dsimp only
      split
      · exact (ext_number s).trans (ext_upd _ _)
      · exact ext_number s
    · split
      · exact ext_upd _ _
      · split
        · dsimp only
          have h : ∀ b : Bool, Ext r s (if b = true then s.upd (agaF s.top a) else (s.upd (agaF s.top a)).cant) := by
            intro b
            cases b
            · exact (ext_upd _ _).trans (ext_cant _)
            · exact ext_upd _ _
          split
          · exact (h _).trans (ext_upd _ _)
          · exact h _
        · split
          · exact ext_call m s a
          · split
            · exact ext_ret m s
            · exact ext_cant s
theorem set_used (h : List (List Int)) (k : Nat) (r : List Int) (hr : r.length = (h[k]?.getD []).length) : (h.set k r).flatten.length = h.flatten.length := by
  rw [List.length_flatten, List.length_flatten, List.map_set]
  congr 1
  apply List.ext_getElem?
  intro j
  rw [List.getElem?_set]
  split
  · rename_i hij
    subst hij
    split
    · rename_i hl
      rw [List.length_map] at hl
      rw [List.getElem?_map, List.getElem?_eq_getElem hl, hr, List.getElem?_eq_getElem hl]
      rfl
    · rename_i hl
      rw [List.getElem?_eq_none (by omega)]
  · rfl
theorem putH_used (h : List (List Int)) (ref i v : Int) : (putH h ref i v).flatten.length = h.flatten.length := by
  unfold putH
  split
  · exact set_used _ _ _ (by rw [List.length_set])
  · rfl
theorem ext_do (m : Md) (l : Lm) (hl : l.heap.toNat ≤ r) (s : Mc) (op a p : Int) : Ext r s (s.do_ m l op a p).2 := by
  unfold Mc.do_
  by_cases h0 : op = 0
  · rw [if_pos h0]
    exact Ext.refl s
  rw [if_neg h0]
  by_cases h1 : 1 ≤ op ∧ op ≤ 5
  · rw [if_pos h1]
    exact ext_move m s op a
  rw [if_neg h1]
  by_cases h2 : 6 ≤ op ∧ op ≤ 8
  · rw [if_pos h2]
    exact ext_juggle s op
  rw [if_neg h2]
  by_cases h3 : 9 ≤ op ∧ op ≤ 15
  · rw [if_pos h3]
    dsimp only
    split
    · exact (ext_number s).trans (ext_number _)
    · exact ((ext_number s).trans (ext_number _)).trans (ext_push _ _)
  rw [if_neg h3]
  by_cases h4 : op = 16
  · rw [if_pos h4]
    exact ((ext_number s).trans (ext_number _)).trans (ext_pushed _ _)
  rw [if_neg h4]
  by_cases h5 : op = 17
  · rw [if_pos h5]
    exact (ext_pair s).trans (ext_push _ _)
  rw [if_neg h5]
  by_cases h6 : op = 18
  · rw [if_pos h6]
    exact (((ext_pair s).trans (ext_push _ _)).trans (ext_pair _)).trans (ext_push _ _)
  rw [if_neg h6]
  by_cases h7 : op = 19
  · rw [if_pos h7]
    exact ((ext_pair s).trans (ext_pair _)).trans (ext_pushed _ _)
  rw [if_neg h7]
  by_cases h8 : op = 20
  · rw [if_pos h8]
    exact ((ext_pair s).trans (ext_pair _)).trans (ext_pushed _ _)
  rw [if_neg h8]
  by_cases h9 : op = 21
  · rw [if_pos h9]
    exact (ext_pair s).trans (ext_pushed _ _)
  rw [if_neg h9]
  by_cases h10 : op = 22
  · rw [if_pos h10]
    dsimp only
    split
    · exact ext_number s
    · exact (ext_number s).trans (ext_array l hl _ _)
  rw [if_neg h10]
  by_cases h11 : op = 23
  · rw [if_pos h11]
    dsimp only
    split
    · exact ((ext_number s).trans (ext_pop _ 3)).trans (ext_push _ _)
    · exact (ext_number s).trans (ext_pop _ 3)
  rw [if_neg h11]
  by_cases h12 : op = 24
  · rw [if_pos h12]
    have h := ((ext_number (r := r) s).trans (ext_number _)).trans (ext_pop s.number.2.number.2 3)
    dsimp only
    split
    · split
      · exact h.trans ⟨rfl, rfl, by show _ ≤ (putH _ _ _ _).flatten.length; rw [putH_used]; exact Nat.le_refl _, id, rfl, fun e => by show (putH _ _ _ _).flatten.length ≤ r; rw [putH_used]; exact e⟩
      · exact h
    · exact h
  rw [if_neg h12]
  by_cases h13 : op = 25
  · rw [if_pos h13]
    dsimp only
    split
    · exact (ext_pop s 3).trans (ext_push _ _)
    · exact ext_pop s 3
  rw [if_neg h13]
  by_cases h14 : op = 32
  · rw [if_pos h14]
    exact Ext.refl s
  rw [if_neg h14]
  exact ext_turn m s op a p
end
/-- A step that comes to no error. -/
theorem next_ok {m : Md} {l : Lm} {s : Mc} (h : (s.next m l).e = 0) : s.e = 0 ∧ s.size ≤ l.stack ∧ s.fu ≠ l.fuel ∧ (s.next m l).fu = s.fu + 1 ∧ (s.next m l).st = max s.st s.size ∧ s.hp.flatten.length ≤ (s.next m l).hp.flatten.length ∧ (s.next m l).gl.map (·.1) = s.gl.map (·.1) ∧ (s.hp.flatten.length ≤ l.heap.toNat → (s.next m l).hp.flatten.length ≤ l.heap.toNat) := by
  unfold Mc.next at h ⊢
  dsimp only at h ⊢
  by_cases h1 : l.stack < s.size
  · rw [if_pos h1] at h
    exact absurd h (by simp)
  rw [if_neg h1] at h ⊢
  by_cases h2 : s.fu = l.fuel
  · rw [if_pos h2] at h
    exact absurd h (by simp)
  rw [if_neg h2] at h ⊢
  refine ⟨?_, by omega, h2, ?_⟩
  · split at h
    · have k := fun x (y : Int × Int) z => ext_do (r := l.heap.toNat) m l (Nat.le_refl _) (Mc.upd { s with fu := s.fu + 1, st := max s.st s.size } x) y.1 y.2 z
      split at h
      · exact (k _ _ _).e h
      · exact (k _ _ _).e h
    · exact absurd h (by simp)
  · split at h
    · rename_i hp
      rw [if_pos hp]
      have k := fun x (y : Int × Int) z => ext_do (r := l.heap.toNat) m l (Nat.le_refl _) (Mc.upd { s with fu := s.fu + 1, st := max s.st s.size } x) y.1 y.2 z
      split
      · exact ⟨(k _ _ _).fu, (k _ _ _).st, (k _ _ _).us, (k _ _ _).gk, (k _ _ _).ub⟩
      · exact ⟨(k _ _ _).fu, (k _ _ _).st, (k _ _ _).us, (k _ _ _).gk, (k _ _ _).ub⟩
    · exact absurd h (by simp)
def Mc.run (m : Md) (l : Lm) : Nat → Mc → Mc
  | 0, s => s
  | k + 1, s => if s.over = false ∧ s.e = 0 then Mc.run m l k (s.next m l) else s
/-- What a run leaves that comes to no error. -/
theorem run_ok {m : Md} {l : Lm} : ∀ (k : Nat) {s : Mc}, (s.run m l k).e = 0 → s.fu ≤ (s.run m l k).fu ∧ s.st ≤ (s.run m l k).st ∧ s.hp.flatten.length ≤ (s.run m l k).hp.flatten.length ∧ (s.run m l k).gl.map (·.1) = s.gl.map (·.1) ∧ s.e = 0
  | 0, s, h => ⟨Int.le_refl _, Int.le_refl _, Nat.le_refl _, rfl, h⟩
  | k + 1, s, h => by
    unfold Mc.run at h ⊢
    split at h
    · rename_i hc
      rw [if_pos hc]
      obtain ⟨a1, a2, a3, a4, a5⟩ := run_ok k h
      obtain ⟨-, -, -, b4, b5, b6, b7, -⟩ := next_ok a5
      refine ⟨by omega, by omega, Nat.le_trans b6 a3, a4.trans b7, hc.2⟩
    · rename_i hc
      rw [if_neg hc]
      exact ⟨Int.le_refl _, Int.le_refl _, Nat.le_refl _, rfl, h⟩
/-- It took no more than its limits. -/
theorem run_within {m : Md} {l : Lm} : ∀ (k : Nat) {s : Mc}, (s.run m l k).e = 0 → s.fu ≤ l.fuel → s.st ≤ l.stack → s.hp.flatten.length ≤ l.heap.toNat → (s.run m l k).fu ≤ l.fuel ∧ (s.run m l k).st ≤ l.stack ∧ (s.run m l k).hp.flatten.length ≤ l.heap.toNat
  | 0, s, h, h1, h2, h3 => ⟨h1, h2, h3⟩
  | k + 1, s, h, h1, h2, h3 => by
    unfold Mc.run at h ⊢
    split at h
    · rename_i hc
      rw [if_pos hc]
      obtain ⟨-, -, -, -, a5⟩ := run_ok k h
      obtain ⟨-, b2, b3, b4, b5, -, -, b8⟩ := next_ok a5
      exact run_within k h (by omega) (by omega) (b8 h3)
    · rename_i hc
      rw [if_neg hc]
      exact ⟨h1, h2, h3⟩
/-- Other limits, enough for what the run took: the same run. -/
theorem run_same {m : Md} {l l' : Lm} : ∀ (k : Nat) {s : Mc}, (s.run m l k).e = 0 → (s.run m l k).fu ≤ l'.fuel → (s.run m l k).st ≤ l'.stack → ((s.run m l k).hp.flatten.length : Int) ≤ l'.heap → s.run m l' k = s.run m l k
  | 0, s, _, _, _, _ => rfl
  | k + 1, s, h, h1, h2, h3 => by
    unfold Mc.run at h h1 h2 h3 ⊢
    split at h
    · rename_i hc
      rw [if_pos hc] at h1 h2 h3 ⊢
      rw [if_pos hc]
      obtain ⟨a1, a2, a3, -, a5⟩ := run_ok k h
      obtain ⟨-, b2, b3, b4, b5, b6, -, -⟩ := next_ok a5
      have e := next_same (l' := l') a5 (by omega) (by omega) (by omega)
      rw [e]
      exact run_same k h h1 h2 h3
    · rename_i hc
      rw [if_neg hc, if_neg hc]
/-- With less fuel than the run took: the fuel's error, as soon as there are turns enough. -/
theorem run_less {m : Md} {l l' : Lm} : ∀ (k : Nat) {s : Mc}, (s.run m l k).e = 0 → s.fu ≤ l'.fuel → l'.fuel < (s.run m l k).fu → (s.run m l k).st ≤ l'.stack → ((s.run m l k).hp.flatten.length : Int) ≤ l'.heap → (s.run m l' k).e = 170
  | 0, s, _, h0, h1, _, _ => by
    have h1 : l'.fuel < s.fu := h1
    omega
  | k + 1, s, h, h0, h1, h2, h3 => by
    unfold Mc.run at h h1 h2 h3 ⊢
    split at h
    · rename_i hc
      rw [if_pos hc] at h1 h2 h3 ⊢
      obtain ⟨a1, a2, a3, -, a5⟩ := run_ok k h
      obtain ⟨-, b2, b3, b4, b5, b6, -, -⟩ := next_ok a5
      by_cases hf : s.fu = l'.fuel
      · have e : (s.next m l').e = 170 := by
          unfold Mc.next
          dsimp only
          rw [if_neg (by omega), if_pos hf]
        have r : ∀ (j : Nat) (t : Mc), t.e = 170 → (t.run m l' j).e = 170 := by
          intro j t ht
          cases j with
          | zero => exact ht
          | succ j =>
            unfold Mc.run
            rw [if_neg (fun x => by rw [ht] at x; exact absurd x.2 (by decide))]
            exact ht
        exact r _ _ e
      · have e := next_same (l' := l') a5 (by omega) hf (by omega)
        rw [e]
        exact run_less k h (by omega) h1 h2 h3
    · rename_i hc
      rw [if_neg hc] at h1
      omega
end Go.Proofs.Ytkhgpeejmbfmjaa
/- The machine, plainly: what a call comes to. -/
namespace Go.Proofs.Ytkhgpeejmbfmjaa
open Go.RowKit
set_option linter.unusedSimpArgs false
set_option linter.unusedVariables false

/-- Not yet over, if it was not. -/
def Kp (s t : Mc) : Prop := t.over = s.over
theorem Kp.refl (s : Mc) : Kp s s := rfl
theorem Kp.trans {s t u : Mc} (h : Kp s t) (k : Kp t u) : Kp s u := Eq.trans k h
theorem kp_cant (s : Mc) : Kp s s.cant := by
  unfold Mc.cant
  split <;> exact rfl
theorem kp_upd (s : Mc) (F : Fr) : Kp s (s.upd F) := rfl
theorem kp_pop (s : Mc) (k : Int) : Kp s (s.pop k).2 := by
  unfold Mc.pop
  dsimp only
  split
  · exact kp_upd _ _
  · exact kp_cant s
theorem kp_push (s : Mc) (v : V) : Kp s (s.push v) := by
  unfold Mc.push
  split
  · split
    · exact kp_upd _ _
    · exact kp_cant s
  · exact Kp.refl s
theorem kp_number (s : Mc) : Kp s s.number.2 := kp_pop s 1
theorem kp_pair (s : Mc) : Kp s s.pair.2 := kp_pop s 2
theorem kp_pushed (s : Mc) (p : Int × Int × Bool) : Kp s (s.pushed p).2 := by
  unfold Mc.pushed
  split
  · exact kp_push s _
  · exact Kp.refl s
theorem kp_take (ks : List Int) : ∀ s : Mc, Kp s (s.take ks).2 := by
  induction ks with
  | nil => intro s; exact Kp.refl s
  | cons k ks ih => intro s; exact (kp_pop s k).trans (ih _)
theorem kp_call (m : Md) (s : Mc) (i : Int) : Kp s (s.call m i) := by
  unfold Mc.call
  split
  · split
    · exact Kp.refl s
    · dsimp only
      split
      · exact kp_take _ s
      · exact (kp_take _ s).trans (kp_cant _)
  · exact kp_cant s
theorem kp_array (l : Lm) (s : Mc) (n : Int) : Kp s (s.array l n) := by
  unfold Mc.array
  dsimp only
  split
  · exact rfl
  · split
    · exact rfl
    · exact kp_push { s with hp := _ } _
theorem kp_juggle (s : Mc) (op : Int) : Kp s (s.juggle op) := by
  unfold Mc.juggle
  dsimp only
  split
  · exact ((kp_pop s 0).trans (kp_push _ _)).trans (kp_push _ _)
  · split
    · exact (((kp_pop s 0).trans (kp_pop _ 0)).trans (kp_push _ _)).trans (kp_push _ _)
    · exact kp_pop s 0
theorem kp_move (m : Md) (s : Mc) (op a : Int) : Kp s (s.move m op a) := by
  unfold Mc.move
  split
  · dsimp only
    split
    · split
      · exact (kp_pop s 0).trans (kp_upd _ _)
      · exact (kp_pop s 0).trans (kp_cant _)
    · exact kp_pop s 0
  · split
    · dsimp only
      split
      · exact (kp_pop s 0).trans (kp_cant _)
      · exact kp_pop s 0
    · have h : ∀ (b : Bool) (v : V), Kp s (if b = true then s.push v else s.cant) := by
        intro b v
        cases b
        · exact kp_cant s
        · exact kp_push s v
      exact h _ _
/-- What a method gives back is a number or a pair. -/
def Oi (s : Mc) : Prop := s.over = false ∨ (s.out.1 ≠ 0 ∧ s.out.2 = zv) ∨ (s.out.1 = 0 ∧ (s.out.2.1 = 1 ∨ s.out.2.1 = 2))
theorem oi_kp {s t : Mc} (h : Kp s t) (h0 : s.over = false) : Oi t := .inl (Eq.trans h h0)
theorem pop_kind {s : Mc} {k : Int} (h : (s.pop k).2.e = 0) (hk : k ≠ 0) : (s.pop k).1.1 = k := by
  unfold Mc.pop at h ⊢
  dsimp only at h ⊢
  by_cases hp : popB s.top k = true
  · unfold popV
    rw [if_pos hp]
    unfold popB at hp
    rw [Bool.and_eq_true] at hp
    rcases of_decide_eq_true hp.2 with e | e
    · exact absurd e hk
    · exact e
  · rw [if_neg hp] at h
    exfalso
    unfold Mc.cant at h
    split at h
    · exact absurd h (by simp)
    · rename_i hn; exact hn h
theorem oi_ret (m : Md) (s : Mc) (h0 : s.over = false) : Oi (s.ret m) := by
  unfold Mc.ret
  dsimp only
  have h := kp_pop s (m.at (s.ms.getLast?.getD 0)).res
  split
  · exact oi_kp (h.trans (kp_cant _)) h0
  · rename_i hc
    have hk : (m.at (s.ms.getLast?.getD 0)).res = 1 ∨ (m.at (s.ms.getLast?.getD 0)).res = 2 := by omega
    have he : (s.pop (m.at (s.ms.getLast?.getD 0)).res).2.e = 0 := by omega
    split
    · refine .inr (.inr ⟨rfl, ?_⟩)
      show (s.pop _).1.1 = 1 ∨ (s.pop _).1.1 = 2
      rw [pop_kind he (by omega)]
      exact hk
    · exact oi_kp (Kp.trans (t := { (s.pop (m.at (s.ms.getLast?.getD 0)).res).2 with frs := (s.pop (m.at (s.ms.getLast?.getD 0)).res).2.frs.dropLast, ms := (s.pop (m.at (s.ms.getLast?.getD 0)).res).2.ms.dropLast }) h (kp_push _ _)) h0
theorem oi_turn (m : Md) (s : Mc) (op a p : Int) (h0 : s.over = false) : Oi (s.turn m op a p) := by
  unfold Mc.turn
  split
  · exact oi_kp (kp_upd _ _) h0
  · split
    · dsimp only
      split
      · exact oi_kp ((kp_number s).trans (kp_upd _ _)) h0
      · exact oi_kp (kp_number s) h0
    · split
      · exact oi_kp (kp_upd _ _) h0
      · split
        · dsimp only
          have h : ∀ b : Bool, Kp s (if b = true then s.upd (agaF s.top a) else (s.upd (agaF s.top a)).cant) := by
            intro b
            cases b
            · exact (kp_upd _ _).trans (kp_cant _)
            · exact kp_upd _ _
          split
          · exact oi_kp ((h _).trans (kp_upd _ _)) h0
          · exact oi_kp (h _) h0
        · split
          · exact oi_kp (kp_call m s a) h0
          · split
            · exact oi_ret m s h0
            · exact oi_kp (kp_cant s) h0
theorem oi_do (m : Md) (l : Lm) (s : Mc) (op a p : Int) (h0 : s.over = false) : Oi (s.do_ m l op a p).2 := by
  unfold Mc.do_
  by_cases h1 : op = 0
  · rw [if_pos h1]
    exact oi_kp (Kp.refl s) h0
  rw [if_neg h1]
  by_cases h2 : 1 ≤ op ∧ op ≤ 5
  · rw [if_pos h2]
    exact oi_kp (kp_move m s op a) h0
  rw [if_neg h2]
  by_cases h3 : 6 ≤ op ∧ op ≤ 8
  · rw [if_pos h3]
    exact oi_kp (kp_juggle s op) h0
  rw [if_neg h3]
  by_cases h4 : 9 ≤ op ∧ op ≤ 15
  · rw [if_pos h4]
    dsimp only
    split
    · exact oi_kp ((kp_number s).trans (kp_number _)) h0
    · exact oi_kp (((kp_number s).trans (kp_number _)).trans (kp_push _ _)) h0
  rw [if_neg h4]
  by_cases h5 : op = 16
  · rw [if_pos h5]
    exact oi_kp (((kp_number s).trans (kp_number _)).trans (kp_pushed _ _)) h0
  rw [if_neg h5]
  by_cases h6 : op = 17
  · rw [if_pos h6]
    exact oi_kp ((kp_pair s).trans (kp_push _ _)) h0
  rw [if_neg h6]
  by_cases h7 : op = 18
  · rw [if_pos h7]
    exact oi_kp ((((kp_pair s).trans (kp_push _ _)).trans (kp_pair _)).trans (kp_push _ _)) h0
  rw [if_neg h7]
  by_cases h8 : op = 19
  · rw [if_pos h8]
    exact oi_kp (((kp_pair s).trans (kp_pair _)).trans (kp_pushed _ _)) h0
  rw [if_neg h8]
  by_cases h9 : op = 20
  · rw [if_pos h9]
    exact oi_kp (((kp_pair s).trans (kp_pair _)).trans (kp_pushed _ _)) h0
  rw [if_neg h9]
  by_cases h10 : op = 21
  · rw [if_pos h10]
    exact oi_kp ((kp_pair s).trans (kp_pushed _ _)) h0
  rw [if_neg h10]
  by_cases h11 : op = 22
  · rw [if_pos h11]
    dsimp only
    split
    · exact oi_kp (kp_number s) h0
    · exact oi_kp ((kp_number s).trans (kp_array l _ _)) h0
  rw [if_neg h11]
  by_cases h12 : op = 23
  · rw [if_pos h12]
    dsimp only
    split
    · exact oi_kp (((kp_number s).trans (kp_pop _ 3)).trans (kp_push _ _)) h0
    · exact oi_kp ((kp_number s).trans (kp_pop _ 3)) h0
  rw [if_neg h12]
  by_cases h13 : op = 24
  · rw [if_pos h13]
    have h := ((kp_number s).trans (kp_number _)).trans (kp_pop s.number.2.number.2 3)
    dsimp only
    split
    · split
      · exact oi_kp h h0
      · exact oi_kp h h0
    · exact oi_kp h h0
  rw [if_neg h13]
  by_cases h14 : op = 25
  · rw [if_pos h14]
    dsimp only
    split
    · exact oi_kp ((kp_pop s 3).trans (kp_push _ _)) h0
    · exact oi_kp (kp_pop s 3) h0
  rw [if_neg h14]
  by_cases h15 : op = 32
  · rw [if_pos h15]
    exact oi_kp (Kp.refl s) h0
  rw [if_neg h15]
  exact oi_turn m s op a p h0
theorem oi_next {m : Md} {l : Lm} {s : Mc} (h0 : s.over = false) : Oi (s.next m l) := by
  unfold Mc.next
  dsimp only
  split
  · exact .inl h0
  · split
    · exact .inl h0
    · split
      · split
        · rename_i h
          exact .inr (.inl ⟨h.1, rfl⟩)
        · exact oi_do m l _ _ _ _ h0
      · exact .inl h0
theorem oi_run {m : Md} {l : Lm} : ∀ (k : Nat) {s : Mc}, s.over = false → Oi (s.run m l k)
  | 0, s, h => .inl h
  | k + 1, s, h => by
    unfold Mc.run
    split
    · by_cases ho : (s.next m l).over = false
      · exact oi_run k ho
      · have e : (s.next m l).run m l k = s.next m l := by
          cases k with
          | zero => rfl
          | succ k => unfold Mc.run; rw [if_neg (fun x => ho x.1)]
        rw [e]
        exact oi_next h
    · exact .inl h
/-- A run is over, or has an error, within its fuel's turns and one more. -/
theorem run_ends {m : Md} {l : Lm} : ∀ (k : Nat) {s : Mc}, s.fu ≤ l.fuel → l.fuel - s.fu < k → (s.run m l k).over = true ∨ (s.run m l k).e ≠ 0
  | 0, s, h, h1 => by omega
  | k + 1, s, h, h1 => by
    unfold Mc.run
    split
    · by_cases he : (s.next m l).e = 0
      · obtain ⟨-, -, b3, b4, -⟩ := next_ok he
        exact run_ends k (by omega) (by omega)
      · have e : (s.next m l).run m l k = s.next m l := by
          cases k with
          | zero => rfl
          | succ k => unfold Mc.run; rw [if_neg (fun x => he x.2)]
        rw [e]
        exact .inr he
    · rename_i hc
      by_cases ho : s.over = true
      · exact .inl ho
      · exact .inr (fun he => hc ⟨by simpa using ho, he⟩)
end Go.Proofs.Ytkhgpeejmbfmjaa
/- The machine's small functions: in, value.Int, value.Pair, the operations of two numbers. -/
namespace Go.Proofs.Ytkhgpeejmbfmjaa
open Go.RowKit
set_option linter.unusedSimpArgs false
set_option linter.unusedVariables false
set_option maxRecDepth 100000

theorem in_any (n p : Int) (w : World) : Calls Try.prog 17 #[.int .i64 n, .int .i64 p] w fun e W' => e = .returned (.bool (inB n p)) ∧ W' = w := by
  unfold inB
  by_cases h0 : 0 ≤ n
  · by_cases h1 : n ≤ p
    · rw [decide_eq_true ⟨h0, h1⟩]
      go_enter Try.func17, Try.ntmps17
      go_wp2_with fail
      go_ret
      exact ⟨by simp [h0, h1], rfl⟩
    · rw [decide_eq_false (fun e => h1 e.2)]
      go_enter Try.func17, Try.ntmps17
      go_wp2_with fail
      go_ret
      exact ⟨by simp [h0, h1], rfl⟩
  · rw [decide_eq_false (fun e => h0 e.1)]
    have h1 : decide (0 ≤ n) = false := decide_eq_false h0
    go_enter Try.func17, Try.ntmps17
    go_wp2_with fail
    go_ret
    exact ⟨by simp [h0], rfl⟩
theorem int_any (n : Int) (w : World) : Calls Try.prog 38 #[.int .i64 n] w fun e W' => e = .returned (vagg (vInt n)) ∧ Below w.heap.size w W' := by
  unfold vInt vagg
  go_enter Try.func38, Try.ntmps38
  go_wp2_with fail
  refine bodyPost_ret (v := .agg #[.int .u8 1, .int .i64 n, .int .i64 0]) (by simp [results, Try.results38, go_sem]) rfl ⟨rfl, ?_⟩
  exact (Below.refl _ _).alloc (Nat.le_refl _) _
/-- A pair's value, if its parts may be. -/
def pairV (a b : Int) : V := if mayB a b then (2, a, b) else zv
theorem vpair_any (a b : Int) (w : World) : Calls Try.prog 39 #[.int .i64 a, .int .i64 b] w fun e W' => e = .returned (.tuple #[vagg (pairV a b), .bool (mayB a b)]) ∧ Below w.heap.size w W' := by
  have hb0 : Below w.heap.size w (w.alloc (.cells #[.int .u8 0, .int .i64 0, .int .i64 0] 29)) := (Below.refl _ _).alloc (Nat.le_refl _) _
  have HM := Lib.hid (may_any a b (w.alloc (.cells #[.int .u8 0, .int .i64 0, .int .i64 0] 29)))
  have HB0 := Lib.hid hb0
  have p0 := Blk.new w #[.int .u8 0, .int .i64 0, .int .i64 0] 29
  have HP := Lib.hid p0
  clear hb0 p0
  cases hm : mayB a b with
  | false =>
    rw [hm] at HM
    have e : pairV a b = zv := by unfold pairV; rw [hm]; rfl
    rw [e]
    unfold vagg zv
    dsimp only
    clear hm e
    go_enter Try.func39, Try.ntmps39
    go_wp2_with fail
    refine HM.out.mono ?_
    rintro e w1 ⟨rfl, hb⟩
    have b1 := HP.out.below hb
    have s0 := b1.c 0 _ rfl
    have s1 := b1.c 1 _ rfl
    have s2 := b1.c 2 _ rfl
    have f0 := b1.f 0
    have f1 := b1.f 1
    have f2 := b1.f 2
    have sl := b1.l
    have bz := ((b1.set (j := 0) rfl (.int .u8 0)).set (j := 1) rfl (.int .i64 0)).set (j := 2) rfl (.int .i64 0)
    have r0 := bz.c 0 _ rfl
    have r1 := bz.c 1 _ rfl
    have r2 := bz.c 2 _ rfl
    have HB := Lib.hid (Blk.below_set (Blk.below_set (Blk.below_set (below_next HB0.out hb) (Nat.le_refl _) 0 (.int .u8 0)) (Nat.le_refl _) 1 (.int .i64 0)) (Nat.le_refl _) 2 (.int .i64 0))
    clear hb b1 bz
    go_wp2_with fail
    refine bodyPost_ret (v := .tuple #[.agg #[.int .u8 0, .int .i64 0, .int .i64 0], .bool false]) (by simp [results, Try.results39, go_sem, r0, r1, r2]) rfl ⟨rfl, HB.out⟩
  | true =>
    rw [hm] at HM
    have e : pairV a b = (2, a, b) := by unfold pairV; rw [hm]; rfl
    rw [e]
    unfold vagg
    dsimp only
    clear hm e
    go_enter Try.func39, Try.ntmps39
    go_wp2_with fail
    refine HM.out.mono ?_
    rintro e w1 ⟨rfl, hb⟩
    have b1 := HP.out.below hb
    have s0 := b1.c 0 _ rfl
    have s1 := b1.c 1 _ rfl
    have s2 := b1.c 2 _ rfl
    have f0 := b1.f 0
    have f1 := b1.f 1
    have f2 := b1.f 2
    have sl := b1.l
    have bz := ((b1.set (j := 0) rfl (.int .u8 2)).set (j := 1) rfl (.int .i64 a)).set (j := 2) rfl (.int .i64 b)
    have r0 := bz.c 0 _ rfl
    have r1 := bz.c 1 _ rfl
    have r2 := bz.c 2 _ rfl
    have HB := Lib.hid (Blk.below_set (Blk.below_set (Blk.below_set (below_next HB0.out hb) (Nat.le_refl _) 0 (.int .u8 2)) (Nat.le_refl _) 1 (.int .i64 a)) (Nat.le_refl _) 2 (.int .i64 b))
    clear hb b1 bz
    go_wp2_with fail
    refine bodyPost_ret (v := .tuple #[.agg #[.int .u8 2, .int .i64 a, .int .i64 b], .bool true]) (by simp [results, Try.results39, go_sem, r0, r1, r2]) rfl ⟨rfl, HB.out⟩
end Go.Proofs.Ytkhgpeejmbfmjaa
/- The machine's operations of two numbers. -/
namespace Go.Proofs.Ytkhgpeejmbfmjaa
open Go.RowKit
set_option linter.unusedSimpArgs false
set_option linter.unusedVariables false
set_option maxRecDepth 100000
def two (p : Int × Int) : Value := .tuple #[.int .i64 p.1, .int .i64 p.2]
theorem tdiv_in {a b : Int} (ha : I64 a) (hb : I64 b) (h0 : b ≠ 0) (h : ¬ (a = -9223372036854775808 ∧ b = -1)) : wrap64 (a.tdiv b) = a.tdiv b := by
  have h1 : (a.tdiv b).natAbs = a.natAbs / b.natAbs := Int.natAbs_tdiv a b
  have h2 : a.natAbs / b.natAbs ≤ a.natAbs := Nat.div_le_self _ _
  unfold I64 at ha hb
  have key : -9223372036854775808 ≤ a.tdiv b ∧ a.tdiv b ≤ 9223372036854775807 := by
    by_cases ha2 : a = -9223372036854775808
    · subst ha2
      have hb2 : b ≠ -1 := fun e => h ⟨rfl, e⟩
      by_cases hb3 : b = 1
      · subst hb3
        decide
      · have h3 : 2 ≤ b.natAbs := by omega
        have h4 : (-9223372036854775808 : Int).natAbs / b.natAbs ≤ 9223372036854775808 / 2 := Nat.div_le_div_left h3 (by decide)
        omega
    · omega
  unfold wrap64
  omega
theorem truth_any (b : Bool) (w : World) : Calls Try.prog 60 #[.bool b] w fun e W' => e = .returned (two (if b = true then 1 else 0, 0)) ∧ W' = w := by
  unfold two
  cases b
  · go_enter Try.func60, Try.ntmps60
    go_wp2_with fail
    go_ret2
    exact ⟨rfl, rfl⟩
  · go_enter Try.func60, Try.ntmps60
    go_wp2_with fail
    go_ret2
    exact ⟨rfl, rfl⟩
theorem div_any (a b : Int) (ha : I64 a) (hb : I64 b) (w : World) : Calls Try.prog 57 #[.int .i64 a, .int .i64 b] w fun e W' => e = .returned (two (divV a b)) ∧ W' = w := by
  unfold divV two
  by_cases h0 : b = 0
  · rw [if_pos h0]
    subst h0
    go_enter Try.func57, Try.ntmps57
    go_wp2_with fail
    go_ret2
    exact ⟨rfl, rfl⟩
  rw [if_neg h0]
  have e0 : (b == 0) = false := by rw [beq_eq_false_iff_ne]; exact h0
  by_cases h1 : a = -9223372036854775808 ∧ b = -1
  · rw [if_pos h1]
    obtain ⟨rfl, rfl⟩ := h1
    go_enter Try.func57, Try.ntmps57
    go_wp2_with fail
    go_ret2
    exact ⟨rfl, rfl⟩
  rw [if_neg h1]
  have ew := tdiv_in ha hb h0 h1
  by_cases h2 : a = -9223372036854775808
  · have h3 : (b == -1) = false := by rw [beq_eq_false_iff_ne]; exact fun e => h1 ⟨h2, e⟩
    have h4 : (a == -9223372036854775808) = true := beq_iff_eq.2 h2
    clear h1 h2
    go_enter Try.func57, Try.ntmps57
    go_wp2_with fail
    go_ret2
    exact ⟨by simp [ew, e0], rfl⟩
  · have h4 : (a == -9223372036854775808) = false := by rw [beq_eq_false_iff_ne]; exact h2
    clear h1 h2
    go_enter Try.func57, Try.ntmps57
    go_wp2_with fail
    go_ret2
    exact ⟨by simp [ew, e0], rfl⟩
theorem rem_any (a b : Int) (ha : I64 a) (hb : I64 b) (w : World) : Calls Try.prog 58 #[.int .i64 a, .int .i64 b] w fun e W' => e = .returned (two (remV a b)) ∧ W' = w := by
  have HD := Lib.hid (div_any a b ha hb w)
  unfold remV
  unfold two at *
  generalize divV a b = q at *
  obtain ⟨q1, q2⟩ := q
  dsimp only at *
  clear ha hb
  go_enter Try.func58, Try.ntmps58
  go_wp2_with fail
  refine HD.out.mono ?_
  rintro e w1 ⟨rfl, rfl⟩
  go_wp2_with fail
  go_ret2
  exact ⟨rfl, rfl⟩
/-- An operation of two numbers. -/
def BinSays (F : Nat) (op : Int) : Prop := ∀ (a b : Int) (w : World), I64 a → I64 b → Calls Try.prog F #[.int .i64 a, .int .i64 b] w fun e W' => e = .returned (two (binV op a b)) ∧ W' = w
theorem bin_9 : BinSays 54 9 := by
  intro a b w ha hb
  show Calls Try.prog 54 _ w fun e W' => e = .returned (two (wrap64 (a + b), 0)) ∧ W' = w
  unfold two
  clear ha hb
  go_enter Try.func54, Try.ntmps54
  go_wp2_with fail
  go_ret2
  exact ⟨rfl, rfl⟩
theorem bin_10 : BinSays 55 10 := by
  intro a b w ha hb
  show Calls Try.prog 55 _ w fun e W' => e = .returned (two (wrap64 (a - b), 0)) ∧ W' = w
  unfold two
  clear ha hb
  go_enter Try.func55, Try.ntmps55
  go_wp2_with fail
  go_ret2
  exact ⟨rfl, rfl⟩
theorem bin_11 : BinSays 56 11 := by
  intro a b w ha hb
  show Calls Try.prog 56 _ w fun e W' => e = .returned (two (wrap64 (a * b), 0)) ∧ W' = w
  unfold two
  clear ha hb
  go_enter Try.func56, Try.ntmps56
  go_wp2_with fail
  go_ret2
  exact ⟨rfl, rfl⟩
theorem bin_12 : BinSays 57 12 := fun a b w ha hb => div_any a b ha hb w
theorem bin_13 : BinSays 58 13 := fun a b w ha hb => rem_any a b ha hb w
theorem bin_14 : BinSays 59 14 := by
  intro a b w ha hb
  show Calls Try.prog 59 _ w fun e W' => e = .returned (two (if a < b then 1 else 0, 0)) ∧ W' = w
  have HT := Lib.hid (fun W => truth_any (decide (a < b)) W)
  have e1 : (if (decide (a < b)) = true then (1 : Int) else 0) = if a < b then 1 else 0 := by
    by_cases h : a < b <;> simp [h]
  rw [e1] at HT
  unfold two at HT ⊢
  generalize (if a < b then (1 : Int) else 0) = v at *
  clear e1 ha hb
  go_enter Try.func59, Try.ntmps59
  go_wp2_with fail
  refine (HT.out _).mono ?_
  rintro e w1 ⟨rfl, rfl⟩
  go_wp2_with fail
  go_ret2
  exact ⟨rfl, rfl⟩
theorem bin_15 : BinSays 61 15 := by
  intro a b w ha hb
  show Calls Try.prog 61 _ w fun e W' => e = .returned (two (if a = b then 1 else 0, 0)) ∧ W' = w
  have HT := Lib.hid (fun W => truth_any (a == b) W)
  have e1 : (if (a == b) = true then (1 : Int) else 0) = if a = b then 1 else 0 := by
    by_cases h : a = b <;> simp [h]
  rw [e1] at HT
  unfold two at HT ⊢
  generalize (if a = b then (1 : Int) else 0) = v at *
  clear e1 ha hb
  go_enter Try.func61, Try.ntmps61
  go_wp2_with fail
  refine (HT.out _).mono ?_
  rintro e w1 ⟨rfl, rfl⟩
  go_wp2_with fail
  go_ret2
  exact ⟨rfl, rfl⟩
end Go.Proofs.Ytkhgpeejmbfmjaa
/- The machine: value.May. -/
namespace Go.Proofs.Ytkhgpeejmbfmjaa
open Go.RowKit
open Go.Sort
set_option linter.unusedSimpArgs false
set_option linter.unusedVariables false
set_option maxRecDepth 100000
theorem mayV_is (k a b : Int) : mayV (k, a, b) = (decide ((k, a, b) = (1, a, 0)) || (mayB a b && decide ((k, a, b) = pairV a b))) := by
  unfold mayV pairV
  cases hm : mayB a b with
  | false => simp [hm]
  | true => simp [hm]
theorem vmay_any (v : V) (w : World) : Calls Try.prog 29 #[vagg v] w fun e W' => e = .returned (.bool (mayV v)) ∧ Below w.heap.size w W' := by
  obtain ⟨k, a, b⟩ := v
  rw [mayV_is]
  obtain ⟨X, hX⟩ : ∃ X, w.alloc (.cells #[.int .u8 k, .int .i64 a, .int .i64 b] 29) = X := ⟨_, rfl⟩
  obtain ⟨b1, hb1⟩ : ∃ b1, w.heap.size = b1 := ⟨_, rfl⟩
  have hbX : Below w.heap.size w X := by rw [← hX]; exact (Below.refl _ _).alloc (Nat.le_refl _) _
  have p0 : Blk X b1 [.int .u8 k, .int .i64 a, .int .i64 b] := by rw [← hX, ← hb1]; exact Blk.new _ _ _
  have HP := Lib.hid (vpair_any a b X)
  obtain ⟨q1, hq1⟩ : ∃ q1, decide ((k, a, b) = (1, a, 0)) = q1 := ⟨_, rfl⟩
  obtain ⟨⟨p1, p2, p3⟩, hp⟩ : ∃ p, pairV a b = p := ⟨_, rfl⟩
  obtain ⟨q2, hq2⟩ : ∃ q2, decide ((k, a, b) = (p1, p2, p3)) = q2 := ⟨_, rfl⟩
  have v1 := fun W => val_eql k a b 1 a 0 W q1 hq1
  have v2 := fun W => val_eql k a b p1 p2 p3 W q2 hq2
  rw [hp, hq1, hq2]
  rw [hp] at HP
  generalize mayB a b = mB at *
  have cI : ∀ (V : World) (d : Nat) (os : Array Obj), Calls Try.prog 38 #[.int .i64 a] (grow (redrawn V d) os) fun e w'' => e = .returned (.agg #[.int .u8 1, .int .i64 a, .int .i64 0]) ∧ ∃ p : Regrown, w'' = grow (redrawn V p.d) p.os := fun V d os => Calls.regrown_of (int_any a _)
  have CI := Lib.hid cI
  have HPB := Lib.hid (And.intro hbX p0)
  have HE := Lib.hid (And.intro hX hb1)
  unfold vagg at *
  dsimp only at *
  have a1 := p0.c 1 _ rfl
  have a2 := p0.c 2 _ rfl
  have al := p0.l
  clear cI hX hb1 hbX p0 hp hq1 hq2
  go_enter Try.func29, Try.ntmps29
  go_wp2_with fail
  rw [HE.out.1, HE.out.2]
  clear HE
  go_wp2_with fail
  refine HP.out.mono ?_
  rintro e w3 ⟨rfl, hb3⟩
  obtain ⟨V, hV⟩ : ∃ V, w3.alloc (.cells #[.int .u8 p1, .int .i64 p2, .int .i64 p3] 29) = V := ⟨_, rfl⟩
  obtain ⟨b3, hb3'⟩ : ∃ b3, w3.heap.size = b3 := ⟨_, rfl⟩
  have bb : Blk V b1 [.int .u8 k, .int .i64 a, .int .i64 b] := by rw [← hV]; exact (HPB.out.2.below hb3).alloc _
  have cc : Blk V b3 [.int .u8 p1, .int .i64 p2, .int .i64 p3] := by rw [← hV, ← hb3']; exact Blk.new _ _ _
  have HB := Lib.hid (show Below w.heap.size w V by rw [← hV]; exact below_next (below_next HPB.out.1 hb3) ((Below.refl _ _).alloc (Nat.le_refl _) _))
  have x0 := bb.c 0 _ rfl
  have x1 := bb.c 1 _ rfl
  have x2 := bb.c 2 _ rfl
  have y0 := cc.c 0 _ rfl
  have y1 := cc.c 1 _ rfl
  have y2 := cc.c 2 _ rfl
  have HV := Lib.hid (And.intro hV hb3')
  clear hb3 bb cc hV hb3' HPB HP a1 a2 al
  go_upto_region 2 with fail
  rw [HV.out.1, HV.out.2]
  clear HV
  have k0 := cell_regrown x0
  have k1 := cell_regrown x1
  have k2 := cell_regrown x2
  have k3 := cell_regrown y0
  have k4 := cell_regrown y1
  have k5 := cell_regrown y2
  clear x0 x1 x2 y0 y1 y2
  cases q1 with
  | true =>
      refine wp_region_quiet_below (by kernel_rfl) (by kernel_rfl) ?_
      repeat (first | go_big_quiet_step (first | with_reducible exact CI.out _ _ _) | quiet_step (first | with_reducible exact CI.out _ _ _))
      refine wpQuiet_nil ?_
      intro _ hw'
      obtain ⟨⟨dq, osq⟩, hw''⟩ := hw'
      subst hw''
      go_wp2_with fail
      go_ret
      exact ⟨by simp, below_next HB.out (below_regrown V dq osq)⟩
  | false =>
    cases mB with
    | false =>
      refine wp_region_quiet_below (by kernel_rfl) (by kernel_rfl) ?_
      repeat (first | go_big_quiet_step (first | with_reducible exact CI.out _ _ _) | quiet_step (first | with_reducible exact CI.out _ _ _))
      refine wpQuiet_nil ?_
      intro _ hw'
      obtain ⟨⟨dq, osq⟩, hw''⟩ := hw'
      subst hw''
      go_wp2_with fail
      go_ret
      exact ⟨by simp, below_next HB.out (below_regrown V dq osq)⟩
    | true =>
      refine wp_region_quiet_below (by kernel_rfl) (by kernel_rfl) ?_
      repeat (first | go_big_quiet_step (first | with_reducible exact CI.out _ _ _) | quiet_step (first | with_reducible exact CI.out _ _ _))
      refine wpQuiet_nil ?_
      intro _ hw'
      obtain ⟨⟨dq, osq⟩, hw''⟩ := hw'
      subst hw''
      go_wp2_with fail
      go_ret
      exact ⟨by simp, below_next HB.out (below_regrown V dq osq)⟩
end Go.Proofs.Ytkhgpeejmbfmjaa
/- The machine: value.Inside. -/
namespace Go.Proofs.Ytkhgpeejmbfmjaa
open Go.RowKit
set_option linter.unusedSimpArgs false
set_option linter.unusedVariables false
set_option maxRecDepth 100000
theorem insideV_is (k a b : Int) : insideV (k, a, b) = (mayV (k, a, b) || decide ((k, a, b) = (3, max a 0, 0))) := by
  have e : (decide (k = 3) && (decide (0 ≤ a) && decide (b = 0))) = decide ((k, a, b) = (3, max a 0, 0)) := by
    by_cases h1 : k = 3
    · by_cases h2 : 0 ≤ a
      · have h3 : max a 0 = a := by omega
        rw [h3]
        by_cases h4 : b = 0 <;> simp [h1, h2, h4]
      · have h3 : ¬ a = max a 0 := by omega
        have h4 : ¬ (k, a, b) = (3, max a 0, 0) := fun e => h3 (by injection e with e1 e2; injection e2)
        rw [decide_eq_false h4, decide_eq_false h2]
        simp
    · have h4 : ¬ (k, a, b) = (3, max a 0, 0) := fun e => h1 (by injection e)
      rw [decide_eq_false h4, decide_eq_false h1]
      rfl
  rw [← e]
  rfl
theorem inside_any (v : V) (w : World) : Calls Try.prog 53 #[vagg v] w fun e W' => e = .returned (.bool (insideV v)) ∧ Below w.heap.size w W' := by
  obtain ⟨k, a, b⟩ := v
  rw [insideV_is]
  obtain ⟨X, hX⟩ : ∃ X, w.alloc (.cells #[.int .u8 k, .int .i64 a, .int .i64 b] 29) = X := ⟨_, rfl⟩
  obtain ⟨b1, hb1⟩ : ∃ b1, w.heap.size = b1 := ⟨_, rfl⟩
  have hbX : Below w.heap.size w X := by rw [← hX]; exact (Below.refl _ _).alloc (Nat.le_refl _) _
  have p0 : Blk X b1 [.int .u8 k, .int .i64 a, .int .i64 b] := by rw [← hX, ← hb1]; exact Blk.new _ _ _
  have HP := Lib.hid (vmay_any (k, a, b) X)
  obtain ⟨q2, hq2⟩ : ∃ q2, decide ((k, a, b) = (3, max a 0, 0)) = q2 := ⟨_, rfl⟩
  have v2 := fun W => val_eql k a b 3 (max a 0) 0 W q2 hq2
  rw [hq2]
  generalize mayV (k, a, b) = m at *
  have HPB := Lib.hid (And.intro hbX p0)
  have HE := Lib.hid (And.intro hX hb1)
  unfold vagg at *
  dsimp only at *
  have a0 := p0.c 0 _ rfl
  have a1 := p0.c 1 _ rfl
  have a2 := p0.c 2 _ rfl
  have al := p0.l
  clear hX hb1 hbX p0 hq2
  cases m with
  | true =>
    go_enter Try.func53, Try.ntmps53
    go_wp2_with fail
    rw [HE.out.1, HE.out.2]
    clear HE
    go_wp2_with fail
    refine HP.out.mono ?_
    rintro e w3 ⟨rfl, hb3⟩
    have HB := Lib.hid (below_next HPB.out.1 hb3)
    clear hb3
    go_wp2_with fail
    go_ret
    exact ⟨by simp, HB.out⟩
  | false =>
    go_enter Try.func53, Try.ntmps53
    go_wp2_with fail
    rw [HE.out.1, HE.out.2]
    clear HE
    go_wp2_with fail
    refine HP.out.mono ?_
    rintro e w3 ⟨rfl, hb3⟩
    have bb := HPB.out.2.below hb3
    have x0 := bb.c 0 _ rfl
    have x1 := bb.c 1 _ rfl
    have x2 := bb.c 2 _ rfl
    have xl := bb.l
    have HB := Lib.hid (below_next HPB.out.1 hb3)
    clear hb3 bb a0 a1 a2
    by_cases ha : a < 0
    · have e1 : max a 0 = 0 := by omega
      rw [e1] at v2
      clear e1
      go_wp2_with fail
      go_ret
      exact ⟨by simp, HB.out⟩
    · have e1 : max a 0 = a := by omega
      rw [e1] at v2
      clear e1
      have ha2 : 0 ≤ a := by omega
      go_wp2_with fail
      go_ret
      exact ⟨by simp, HB.out⟩
end Go.Proofs.Ytkhgpeejmbfmjaa
/- The machine: the table of operations. -/
namespace Go.Proofs.Ytkhgpeejmbfmjaa
open Go.RowKit
set_option linter.unusedSimpArgs false
set_option linter.unusedVariables false
set_option maxRecDepth 100000
/-- The table's cells. -/
def tabl : Array Value := #[.nilFunc, .nilFunc, .nilFunc, .nilFunc, .nilFunc, .nilFunc, .nilFunc, .nilFunc, .nilFunc, .func (.func 54) #[] #[], .func (.func 55) #[] #[], .func (.func 56) #[] #[], .func (.func 57) #[] #[], .func (.func 58) #[] #[], .func (.func 59) #[] #[], .func (.func 61) #[] #[], .nilFunc, .nilFunc, .nilFunc, .nilFunc, .nilFunc, .nilFunc, .nilFunc, .nilFunc, .nilFunc, .nilFunc, .nilFunc, .nilFunc, .nilFunc, .nilFunc, .nilFunc, .nilFunc, .nilFunc]
theorem res36 (t : Array Value) (w : World) (c : Array Value) (hc : c.size = 33) (h : t.getD 0 undef = .pointer (some ⟨w.heap.size, 0, none⟩)) : (results Try.f36 t).run Try.prog (w.alloc (.cells c 93)) = .ok (.agg c) (w.alloc (.cells c 93)) := by
  have hl := run_loadVar_new (P := Try.prog) w 93 c 33 92 (by kernel_rfl) (by rw [hc]; kernel_rfl)
  rw [Array.getD_eq_getD_getElem?] at h
  simp [results, Try.results36, asAddr, h, hl, Sem.run_bind, Sem.run_pure, Result.andThen]
def z33 : Array Value := #[.nilFunc, .nilFunc, .nilFunc, .nilFunc, .nilFunc, .nilFunc, .nilFunc, .nilFunc, .nilFunc, .nilFunc, .nilFunc, .nilFunc, .nilFunc, .nilFunc, .nilFunc, .nilFunc, .nilFunc, .nilFunc, .nilFunc, .nilFunc, .nilFunc, .nilFunc, .nilFunc, .nilFunc, .nilFunc, .nilFunc, .nilFunc, .nilFunc, .nilFunc, .nilFunc, .nilFunc, .nilFunc, .nilFunc]
theorem z33_run (w : World) : (zeroValue 93).run Try.prog w = .ok (.agg z33) w := by kernel_rfl
theorem build33 (w : World) : (Instr.build 93 #[(9, .agg #[.func (.func 54) #[] #[]]), (10, .agg #[.func (.func 55) #[] #[]]), (11, .agg #[.func (.func 56) #[] #[]]), (12, .agg #[.func (.func 57) #[] #[]]), (13, .agg #[.func (.func 58) #[] #[]]), (14, .agg #[.func (.func 59) #[] #[]]), (15, .agg #[.func (.func 61) #[] #[]]), (32, .agg #[.nilFunc])]).run Try.prog w = .ok (.agg tabl) w := by kernel_rfl
theorem store33 (w : World) : (storeCells ⟨w.heap.size, 0, none⟩ (((((((((z33.toList).set 9 (.func (.func 54) #[] #[])).set 10 (.func (.func 55) #[] #[])).set 11 (.func (.func 56) #[] #[])).set 12 (.func (.func 57) #[] #[])).set 13 (.func (.func 58) #[] #[])).set 14 (.func (.func 59) #[] #[])).set 15 (.func (.func 61) #[] #[])).set 32 .nilFunc) 0).run Try.prog (w.alloc (.cells z33 93)) = .ok () (w.alloc (.cells tabl 93)) := by
  have e : (((((((((z33.toList).set 9 (.func (.func 54) #[] #[])).set 10 (.func (.func 55) #[] #[])).set 11 (.func (.func 56) #[] #[])).set 12 (.func (.func 57) #[] #[])).set 13 (.func (.func 58) #[] #[])).set 14 (.func (.func 59) #[] #[])).set 15 (.func (.func 61) #[] #[])).set 32 .nilFunc) = tabl.toList := by kernel_rfl
  rw [e]
  exact run_storeCells_new w 93 z33 tabl (by kernel_rfl) (by kernel_rfl) (by kernel_rfl)
theorem binaries_any (w : World) : Calls Try.prog 36 #[] w fun e W' => e = .returned (.agg tabl) ∧ Below w.heap.size w W' := by
  have hb : Below w.heap.size w (w.alloc (.cells tabl 93)) := (Below.refl _ _).alloc (Nat.le_refl _) _
  have hz := z33_run
  have hbu := build33
  have hc : Hid ((Value.agg z33).cells = z33) := Lib.hid rfl
  have hs := store33
  go_enter Try.func36, Try.ntmps36
  go_wp2_with fail
  exact bodyPost_ret (v := .agg tabl) (res36 _ _ _ rfl rfl) rfl ⟨rfl, hb⟩
def binF (op : Int) : Nat := if op = 9 then 54 else if op = 10 then 55 else if op = 11 then 56 else if op = 12 then 57 else if op = 13 then 58 else if op = 14 then 59 else 61
theorem bin_says (op : Int) (h : 9 ≤ op ∧ op ≤ 15) : BinSays (binF op) op := by
  have h7 : op = 9 ∨ op = 10 ∨ op = 11 ∨ op = 12 ∨ op = 13 ∨ op = 14 ∨ op = 15 := by omega
  rcases h7 with rfl | rfl | rfl | rfl | rfl | rfl | rfl
  · exact bin_9
  · exact bin_10
  · exact bin_11
  · exact bin_12
  · exact bin_13
  · exact bin_14
  · exact bin_15
theorem ix_9 (w : World) : (Instr.index 93 (.agg tabl) (.int .u8 9)).run Try.prog w = .ok (.agg #[.func (.func 54) #[] #[]]) w := by kernel_rfl
theorem ix_10 (w : World) : (Instr.index 93 (.agg tabl) (.int .u8 10)).run Try.prog w = .ok (.agg #[.func (.func 55) #[] #[]]) w := by kernel_rfl
theorem ix_11 (w : World) : (Instr.index 93 (.agg tabl) (.int .u8 11)).run Try.prog w = .ok (.agg #[.func (.func 56) #[] #[]]) w := by kernel_rfl
theorem ix_12 (w : World) : (Instr.index 93 (.agg tabl) (.int .u8 12)).run Try.prog w = .ok (.agg #[.func (.func 57) #[] #[]]) w := by kernel_rfl
theorem ix_13 (w : World) : (Instr.index 93 (.agg tabl) (.int .u8 13)).run Try.prog w = .ok (.agg #[.func (.func 58) #[] #[]]) w := by kernel_rfl
theorem ix_14 (w : World) : (Instr.index 93 (.agg tabl) (.int .u8 14)).run Try.prog w = .ok (.agg #[.func (.func 59) #[] #[]]) w := by kernel_rfl
theorem ix_15 (w : World) : (Instr.index 93 (.agg tabl) (.int .u8 15)).run Try.prog w = .ok (.agg #[.func (.func 61) #[] #[]]) w := by kernel_rfl
theorem index_tabl (op : Int) (h : 9 ≤ op ∧ op ≤ 15) (w : World) : (Instr.index 93 (.agg tabl) (.int .u8 op)).run Try.prog w = .ok (.agg #[.func (.func (binF op)) #[] #[]]) w := by
  have h7 : op = 9 ∨ op = 10 ∨ op = 11 ∨ op = 12 ∨ op = 13 ∨ op = 14 ∨ op = 15 := by omega
  rcases h7 with rfl | rfl | rfl | rfl | rfl | rfl | rfl
  · exact ix_9 w
  · exact ix_10 w
  · exact ix_11 w
  · exact ix_12 w
  · exact ix_13 w
  · exact ix_14 w
  · exact ix_15 w
theorem field92 (f : Value) (w : World) : (Instr.field 92 (.agg #[f]) 0).run Try.prog w = .ok f w := by kernel_rfl
end Go.Proofs.Ytkhgpeejmbfmjaa
/- The run in memory: whose a block is; frames and heap as others' steps leave them. -/
namespace Go.Proofs.Ytkhgpeejmbfmjaa
open Go.RowKit
set_option linter.unusedSimpArgs false
set_option linter.unusedVariables false
set_option maxRecDepth 100000

/-- The blocks that aren't j's. -/
def Oth (own : Nat → Nat) (j : Nat) (W : World) : Nat → Prop := fun b => b < W.heap.size ∧ own b ≠ j
/-- New blocks are k's. -/
def relab (own : Nat → Nat) (W : World) (k : Nat) : Nat → Nat := fun b => if b < W.heap.size then own b else k
theorem relab_old {own : Nat → Nat} {W : World} {k b : Nat} (h : b < W.heap.size) : relab own W k b = own b := if_pos h
theorem relab_new {own : Nat → Nat} {W : World} {k b : Nat} (h : ¬ b < W.heap.size) : relab own W k b = k := if_neg h
theorem Touch.old {S : Nat → Prop} {W W' : World} (t : Touch S W W') : Touch (fun b => b < W.heap.size ∧ S b) W W' := t.mono (fun b hb hs => ⟨hb, hs⟩)
theorem oth_mine {own : Nat → Nat} {j : Nat} {W W' : World} : ∀ b, Oth (relab own W j) j W' b → Oth own j W b := by
  rintro b ⟨hb, hn⟩
  by_cases h : b < W.heap.size
  · rw [relab_old h] at hn
    exact ⟨h, hn⟩
  · rw [relab_new h] at hn
    exact absurd rfl hn

theorem FO.other {w W : World} {fg c : Nat} {F : Fr} {own : Nat → Nat} {j : Nat} (h : FO w W fg c F (Oth own j W)) {S : Nat → Prop} {W' : World} (t : Touch S W W') (hS : ∀ b, b < W.heap.size → S b → own b ≠ j ∧ w.heap.size ≤ b) (k : Nat) : FO w W' fg c F (Oth (relab own W k) j W') := by
  obtain ⟨⟨base, gm, nm, A, cap, h0, h1, h2, h3⟩, k1, k2⟩ := h
  refine ⟨⟨base, gm, nm, A, cap, h0.touch t (fun b hb e => (h3 b ⟨h0.foot b hb, (hS b (h0.foot b hb) e).1⟩).2 hb), h1, h2, ?_⟩, k1.trans (t.old.below k1.size (fun b e => (hS b e.1 e.2).2)), k2⟩
  rintro b ⟨hb, hn⟩
  refine ⟨hb, fun e => ?_⟩
  have hb2 := h0.foot b e
  rw [relab_old hb2] at hn
  exact (h3 b ⟨hb2, hn⟩).2 e
theorem FO.mine {w W W' : World} {fg c : Nat} {F : Fr} {own : Nat → Nat} {j : Nat} (h : FO w W' fg c F (Oth own j W)) : FO w W' fg c F (Oth (relab own W j) j W') := h.less oth_mine
/-- Made behind a later world. -/
theorem FO.base {w w1 W : World} {fg c : Nat} {F : Fr} {K : Nat → Prop} (h : FO w1 W fg c F K) (hb : Below w.heap.size w w1) : FO w W fg c F K := by
  obtain ⟨⟨base, gm, nm, A, cap, h0, h1, h2, h3⟩, k1, k2⟩ := h
  exact ⟨⟨base, gm, nm, A, cap, h0, h1, Nat.le_trans hb.size h2, h3⟩, below_next hb k1, Nat.le_trans hb.size k2⟩

/-- A heap made behind the world w; the blocks of K are others. -/
structure HX (w W : World) (gh gw room : Nat) (arrs : List (List Int)) (K : Nat → Prop) : Prop where
  ex : ∃ base A cap, Hp.HeapAt W gh gw base room arrs A cap ∧ ∀ b, K b → b < W.heap.size ∧ ¬ Hp.FH gh gw A b
  bw : Below w.heap.size w W
  g1 : w.heap.size ≤ gh
  g2 : w.heap.size ≤ gw
def HXk (w W : World) (gh gw room : Nat) (arrs : List (List Int)) (K : Nat → Prop) (W' : World) : Prop := HX w W' gh gw room arrs K ∧ Touch (fun b => ¬ K b) W W'
theorem HX.other {w W : World} {gh gw room : Nat} {arrs : List (List Int)} {own : Nat → Nat} {j : Nat} (h : HX w W gh gw room arrs (Oth own j W)) {S : Nat → Prop} {W' : World} (t : Touch S W W') (hS : ∀ b, b < W.heap.size → S b → own b ≠ j ∧ w.heap.size ≤ b) (k : Nat) : HX w W' gh gw room arrs (Oth (relab own W k) j W') := by
  obtain ⟨⟨base, A, cap, h0, h3⟩, k1, k2, k3⟩ := h
  refine ⟨⟨base, A, cap, h0.touch t (fun b hb e => (h3 b ⟨h0.foot b hb, (hS b (h0.foot b hb) e).1⟩).2 hb), ?_⟩, k1.trans (t.old.below k1.size (fun b e => (hS b e.1 e.2).2)), k2, k3⟩
  rintro b ⟨hb, hn⟩
  refine ⟨hb, fun e => ?_⟩
  have hb2 := h0.foot b e
  rw [relab_old hb2] at hn
  exact (h3 b ⟨hb2, hn⟩).2 e
theorem HX.less {w W : World} {gh gw room : Nat} {arrs : List (List Int)} {K K' : Nat → Prop} (h : HX w W gh gw room arrs K) (hk : ∀ b, K' b → K b) : HX w W gh gw room arrs K' := by
  obtain ⟨⟨base, A, cap, h0, h3⟩, k1, k2, k3⟩ := h
  exact ⟨⟨base, A, cap, h0, fun b hb => h3 b (hk b hb)⟩, k1, k2, k3⟩
theorem HX.mine {w W W' : World} {gh gw room : Nat} {arrs : List (List Int)} {own : Nat → Nat} {j : Nat} (h : HX w W' gh gw room arrs (Oth own j W)) : HX w W' gh gw room arrs (Oth (relab own W j) j W') := h.less oth_mine
theorem HX.below {w W : World} {gh gw room : Nat} {arrs : List (List Int)} {K : Nat → Prop} (h : HX w W gh gw room arrs K) {W' : World} (hb : Below W.heap.size W W') : HX w W' gh gw room arrs K := by
  obtain ⟨⟨base, A, cap, h0, h3⟩, k1, k2, k3⟩ := h
  exact ⟨⟨base, A, cap, h0.below hb, fun b hk => ⟨Nat.lt_of_lt_of_le (h3 b hk).1 hb.size, (h3 b hk).2⟩⟩, below_next k1 hb, k2, k3⟩
theorem hx_new (n : Nat) (w : World) (h2 : n ≤ 1024) : Calls Try.prog 20 #[.int .i64 n] w fun e W => ∃ gh gw, e = .returned (.tuple #[.pointer (some ⟨gh, 0, none⟩), .int .i64 0]) ∧ HX w W gh gw n [] (fun b => b < w.heap.size) := by
  refine (Hp.new_yes n w h2).mono ?_
  rintro e W ⟨gh, gw, rfl, hb, h3, h4, h6, h5⟩
  refine ⟨gh, gw, rfl, ⟨_, _, _, h5, fun b hb2 => ⟨Nat.lt_of_lt_of_le hb2 hb.size, ?_⟩⟩, hb, h4, h3⟩
  rintro (e | e | ⟨a, e, e2⟩)
  · omega
  · omega
  · cases e
section
variable {w W : World} {gh gw room : Nat} {arrs : List (List Int)} {K : Nat → Prop}
theorem hx_make (h : HX w W gh gw room arrs K) (n : Int) (hl : arrs.length < 30000) :
    Calls Try.prog 67 #[.pointer (some ⟨gh, 0, none⟩), .int .i64 n] W fun e W' => e = .returned (.tuple #[.int .i64 (Hp.mkRef room arrs n), .int .i64 (Hp.mkErr room arrs n)]) ∧ HXk w W gh gw room (Hp.mkArrs room arrs n) K W' := by
  obtain ⟨⟨base, A, cap, h0, h4⟩, h1, h2, h3⟩ := h
  refine (Hp.make_at h0 n hl).mono ?_
  rintro e W' ⟨A', cap', rfl, ht, ha, hh⟩
  refine ⟨rfl, ⟨⟨_, _, _, hh, fun b hk => ⟨Nat.lt_of_lt_of_le (h4 b hk).1 ht.size, fun e => (h4 b hk).2 ?_⟩⟩, h1.trans (ht.below h1.size ?_), h2, h3⟩, ht.mono ?_⟩
  · rcases e with e | e | ⟨a, e, e2⟩
    · exact .inl e
    · exact .inr (.inl e)
    · rcases ha with rfl | ha
      · exact .inr (.inr ⟨a, e, e2⟩)
      · have := ha a e; have := (h4 b hk).1; omega
  · rintro k (rfl | ⟨a, e, rfl⟩)
    · exact h2
    · have := h0.rowBase a e; have := h0.b1; omega
  · rintro b hb e hk
    refine (h4 b hk).2 ?_
    rcases e with e | ⟨a, e, e2⟩
    · exact .inl e
    · exact .inr (.inr ⟨a, e, e2⟩)
theorem hx_at (h : HX w W gh gw room arrs K) (ref i : Int) :
    Calls Try.prog 44 #[.pointer (some ⟨gh, 0, none⟩), .int .i64 ref, .int .i64 i] W fun e W' => e = .returned (.tuple #[.int .i64 (atV arrs ref i).1, .bool (atV arrs ref i).2]) ∧ Below W.heap.size W W' := by
  obtain ⟨base, A, cap, h0, -⟩ := h.ex
  cases hp : Hp.plA arrs ref i with
  | none =>
    have e1 : atV arrs ref i = (0, false) := by unfold atV; rw [hp]
    rw [e1]
    exact Hp.at_no h0 hp
  | some kj =>
    obtain ⟨k, j⟩ := kj
    obtain ⟨rfl, rfl, hk, hj⟩ := Hp.plA_some hp
    have e1 : atV arrs ((k : Int) + 1) j = (arrs[k][j], true) := by unfold atV; rw [hp]; simp [List.getElem?_eq_getElem hk, List.getElem?_eq_getElem hj]
    rw [e1]
    exact Hp.at_yes h0 hk hj
theorem hx_put (h : HX w W gh gw room arrs K) (ref i v : Int) :
    Calls Try.prog 46 #[.pointer (some ⟨gh, 0, none⟩), .int .i64 ref, .int .i64 i, .int .i64 v] W fun e W' => e = .returned (.bool (atV arrs ref i).2) ∧ HXk w W gh gw room (putH arrs ref i v) K W' := by
  have h' := h
  obtain ⟨⟨base, A, cap, h0, h4⟩, h1, h2, h3⟩ := h
  cases hp : Hp.plA arrs ref i with
  | none =>
    have e1 : atV arrs ref i = (0, false) := by unfold atV; rw [hp]
    have e2 : putH arrs ref i v = arrs := by unfold putH; rw [hp]
    rw [e1, e2]
    refine (Hp.put_no h0 v hp).mono ?_
    rintro e W' ⟨rfl, hb⟩
    exact ⟨rfl, h'.below hb, Touch.of_below hb (Nat.le_refl _) _⟩
  | some kj =>
    obtain ⟨k, j⟩ := kj
    obtain ⟨rfl, rfl, hk, hj⟩ := Hp.plA_some hp
    have e1 : atV arrs ((k : Int) + 1) j = (arrs[k][j], true) := by unfold atV; rw [hp]; simp [List.getElem?_eq_getElem hk, List.getElem?_eq_getElem hj]
    have e2 : putH arrs ((k : Int) + 1) j v = arrs.set k (arrs[k].set j v) := by unfold putH; rw [hp]; simp [List.getElem?_eq_getElem hk]
    rw [e1, e2]
    refine (Hp.put_yes h0 v hk hj).mono ?_
    rintro e W' ⟨rfl, ht, hh⟩
    refine ⟨rfl, ⟨⟨_, _, _, hh, fun b hk => ⟨Nat.lt_of_lt_of_le (h4 b hk).1 ht.size, (h4 b hk).2⟩⟩, h1.trans (ht.below h1.size ?_), h2, h3⟩, ht.mono ?_⟩
    · rintro k rfl
      exact h3
    · rintro b hb e hk
      exact (h4 b hk).2 (.inr (.inl e))
theorem hx_len (h : HX w W gh gw room arrs K) (ref : Int) :
    Calls Try.prog 47 #[.pointer (some ⟨gh, 0, none⟩), .int .i64 ref] W fun e W' =>
      e = .returned (.tuple #[.int .i64 (if 1 ≤ ref ∧ ref ≤ arrs.length then ((arrs[(ref - 1).toNat]?.getD []).length : Int) else 0), .bool (decide (0 ≤ ref ∧ ref ≤ arrs.length))]) ∧ Below W.heap.size W W' := by
  obtain ⟨base, A, cap, h0, -⟩ := h.ex
  exact Hp.len_at h0 ref
theorem hx_used (h : HX w W gh gw room arrs K) :
    Calls Try.prog 15 #[.pointer (some ⟨gh, 0, none⟩)] W fun e W' => e = .returned (.int .i64 arrs.flatten.length) ∧ Below W.heap.size W W' := by
  obtain ⟨base, A, cap, h0, -⟩ := h.ex
  exact Hp.used_at h0
end
end Go.Proofs.Ytkhgpeejmbfmjaa
/- The run in memory: the module, the run's own cells, its frames and its heap. -/
namespace Go.Proofs.Ytkhgpeejmbfmjaa
open Go.RowKit
set_option linter.unusedSimpArgs false
set_option linter.unusedVariables false
set_option maxRecDepth 100000

/-- What stays as it is: the module, plainly and where it lies; the limits. -/
structure Sx where
  m : Md
  l : Lm
  mg : Value
  mp : Option Addr
  np : Nat
  cp : Nat
  mm : Option Addr
  nm : Nat
  cm : Nat
  mi : Int
  gh : Nat
/-- Instructions in a slice. -/
def InsAt (w : World) (A : Option Addr) (n : Nat) (l : List (Int × Int)) : Prop :=
  l.length = n ∧ ∀ i (h : i < l.length), ∃ g o b, A = some ⟨g, o, none⟩ ∧ g < w.heap.size ∧ (0 ≤ l[i].1 ∧ l[i].1 ≤ 255) ∧ I64 l[i].2 ∧ w.cell? ⟨g, o + i * 3, none⟩ = some (.int .u8 l[i].1) ∧ w.cell? ⟨g, o + i * 3 + 1, none⟩ = some (.int .i64 l[i].2) ∧ w.cell? ⟨g, o + i * 3 + 2, none⟩ = some (.int .i64 b)
theorem InsAt.below {w w' : World} {A : Option Addr} {n : Nat} {l : List (Int × Int)} (h : InsAt w A n l) (hb : Below w.heap.size w w') : InsAt w' A n l :=
  ⟨h.1, fun i hi => by
    obtain ⟨g, o, b, e, hg, hk, hk2, hc, hc1, hc2⟩ := h.2 i hi
    exact ⟨g, o, b, e, Nat.lt_of_lt_of_le hg hb.size, hk, hk2, (hb.cell (p := ⟨g, _, none⟩) hg).trans hc, (hb.cell (p := ⟨g, _, none⟩) hg).trans hc1, (hb.cell (p := ⟨g, _, none⟩) hg).trans hc2⟩⟩
/-- A method in memory. -/
def MtAt (w : World) (g o : Nat) (x : Mt) : Prop :=
  ∃ Aa na ca Al nl cl Ac nc cc rd f1 f2 f3, w.cell? ⟨g, o, none⟩ = some (.slice Aa na ca) ∧ w.cell? ⟨g, o + 1, none⟩ = some (.slice Al nl cl) ∧ w.cell? ⟨g, o + 2, none⟩ = some (.int .u8 x.res) ∧ w.cell? ⟨g, o + 3, none⟩ = some (.bool rd) ∧
    w.cell? ⟨g, o + 4, none⟩ = some (.int .i64 f1) ∧ w.cell? ⟨g, o + 5, none⟩ = some (.int .i64 f2) ∧ w.cell? ⟨g, o + 6, none⟩ = some (.int .i64 f3) ∧ w.cell? ⟨g, o + 7, none⟩ = some (.slice Ac nc cc) ∧
    BytesAt w Aa na x.args ∧ BytesAt w Al nl x.locs ∧ InsAt w Ac nc x.code ∧ na ≤ 20 ∧ nl ≤ 20 ∧ nc ≤ 250 ∧ (0 ≤ x.res ∧ x.res ≤ 255)
theorem MtAt.below {w w' : World} {g o : Nat} {x : Mt} (h : MtAt w g o x) (hg : g < w.heap.size) (hb : Below w.heap.size w w') : MtAt w' g o x := by
  obtain ⟨Aa, na, ca, Al, nl, cl, Ac, nc, cc, rd, f1, f2, f3, h0, h1, h2, h3, h4, h5, h6, h7, a, b, c, d⟩ := h
  exact ⟨Aa, na, ca, Al, nl, cl, Ac, nc, cc, rd, f1, f2, f3, (hb.cell (p := ⟨g, _, none⟩) hg).trans h0, (hb.cell (p := ⟨g, _, none⟩) hg).trans h1, (hb.cell (p := ⟨g, _, none⟩) hg).trans h2, (hb.cell (p := ⟨g, _, none⟩) hg).trans h3, (hb.cell (p := ⟨g, _, none⟩) hg).trans h4, (hb.cell (p := ⟨g, _, none⟩) hg).trans h5, (hb.cell (p := ⟨g, _, none⟩) hg).trans h6, (hb.cell (p := ⟨g, _, none⟩) hg).trans h7, a.below hb, b.below hb, c.below hb, d⟩
/-- The module in memory. -/
structure ModAt (w : World) (X : Sx) : Prop where
  pool : VsAt w X.mp X.np X.m.pool
  np : X.np ≤ 40
  ml : X.m.mts.length = X.nm
  mts : ∀ i (h : i < X.m.mts.length), ∃ g o, X.mm = some ⟨g, o, none⟩ ∧ g < w.heap.size ∧ MtAt w g (o + i * 8) X.m.mts[i]
  nm : X.nm ≤ 20
theorem ModAt.below {w w' : World} {X : Sx} (h : ModAt w X) (hb : Below w.heap.size w w') : ModAt w' X :=
  { h with pool := h.pool.below hb, mts := fun i hi => (h.mts i hi).elim fun g ⟨o, e, hg, hm⟩ => ⟨g, o, e, Nat.lt_of_lt_of_le hg hb.size, hm.below hg hb⟩ }

/-- The run's own cells. -/
def rcells (X : Sx) (sf sm : Value) (gh : Nat) (sg : Value) (s : Mc) : List Value :=
  [X.mg, .slice X.mp X.np X.cp, .slice X.mm X.nm X.cm, .int .i64 X.mi, sf, sm, .pointer (some ⟨gh, 0, none⟩), sg, .int .i64 X.l.fuel, .int .i64 X.l.stack, .int .i64 X.l.heap, .int .i64 s.fu, .int .i64 s.st, .int .i64 0, .int .i64 s.e, .bool s.over, .int .i64 s.out.1, .int .u8 s.out.2.1, .int .i64 s.out.2.2.1, .int .i64 s.out.2.2.2]
def ptrs (fgs : List Nat) : List Value := fgs.map fun g => .pointer (some ⟨g, 0, none⟩)
def ints (l : List Nat) : List Value := l.map fun (i : Nat) => .int .i64 i
/-- Whose are the run's own blocks. -/
structure Mine (own : Nat → Nat) (rb : Nat) (Af Am : Option Addr) : Prop where
  rb : own rb = 1
  af : ∀ a : Addr, Af = some a → own a.block = 1
  am : ∀ a : Addr, Am = some a → own a.block = 1
  ne : ∀ a b : Addr, Af = some a → Am = some b → a.block ≠ b.block
/-- The globals. -/
def GlAt (W : World) (own : Nat → Nat) (rb : Nat) (Af Am Ag : Option Addr) (gl : List V) : Prop :=
  gl = [] ∨ ∃ gb, Ag = some ⟨gb, 0, none⟩ ∧ own gb = 1 ∧ Blk W gb (vcs gl) ∧ gb ≠ rb ∧ (∀ a : Addr, Af = some a → a.block ≠ gb) ∧ ∀ a : Addr, Am = some a → a.block ≠ gb
/-- What is always so of a machine at work. -/
structure McOk (X : Sx) (c : Nat) (s : Mc) : Prop where
  ml : s.ms.length = s.frs.length
  mi : ∀ i ∈ s.ms, i < X.m.mts.length
  hl : s.hp.length ≤ c
  hw : ∀ r ∈ s.hp, ∀ z ∈ r, I64 z
  gv : ∀ v ∈ s.gl, VOk v
  gn : s.gl.length ≤ 20
  fl : s.frs.length ≤ 257
  cl : c ≤ 25000
  e : I64 s.e
  out : I64 s.out.1 ∧ VOk s.out.2
structure RunIn (w0 W : World) (X : Sx) (rb : Nat) (fgs : List Nat) (c : Nat) (s : Mc) (K : Nat → Prop) (own : Nat → Nat) (Af : Option Addr) (cf : Nat) (Am : Option Addr) (cm gh gw : Nat) (Ag : Option Addr) (cg : Nat) : Prop where
  blk : Blk W rb (rcells X (.slice Af fgs.length cf) (.slice Am s.ms.length cm) gh (.slice Ag s.gl.length cg) s)
  rowF : W.ownsRow (rb + 1) 66 1 (.slice Af fgs.length cf) fgs.length (ptrs fgs)
  rowM : W.ownsRow (rb + 1) 3 1 (.slice Am s.ms.length cm) s.ms.length (ints s.ms)
  heap : HX w0 W gh gw X.l.heap.toNat s.hp (Oth own 2 W)
  frl : fgs.length = s.frs.length
  fr : ∀ i (h : i < fgs.length) (h' : i < s.frs.length), FO w0 W fgs[i] c s.frs[i] (Oth own (3 + i) W)
  gl : GlAt W own rb Af Am Ag s.gl
  mine : Mine own rb Af Am
  old : ∀ b, b < w0.heap.size → own b = 0
  kk : ∀ b, K b → b < W.heap.size ∧ own b = 0
  bw : Below w0.heap.size w0 W
  md : ModAt w0 X
  ok : McOk X c s
  ghe : gh = X.gh
def RunAt (w0 W : World) (X : Sx) (rb : Nat) (fgs : List Nat) (c : Nat) (s : Mc) (K : Nat → Prop) : Prop :=
  ∃ own Af cf Am cm gh gw Ag cg, RunIn w0 W X rb fgs c s K own Af cf Am cm gh gw Ag cg
/-- .. still there behind a call that leaves K's blocks alone. -/
def RunK (w0 W : World) (X : Sx) (rb : Nat) (fgs : List Nat) (c : Nat) (s : Mc) (K : Nat → Prop) (W' : World) : Prop := RunAt w0 W' X rb fgs c s K ∧ Touch (fun b => ¬ K b) W W'

section
variable {w0 W : World} {X : Sx} {rb : Nat} {fgs : List Nat} {c : Nat} {s : Mc} {K : Nat → Prop} {own : Nat → Nat} {Af : Option Addr} {cf : Nat} {Am : Option Addr} {cm gh gw : Nat} {Ag : Option Addr} {cg : Nat}
theorem RunIn.rbl (h : RunIn w0 W X rb fgs c s K own Af cf Am cm gh gw Ag cg) : rb < W.heap.size := h.blk.l
theorem RunIn.afl (h : RunIn w0 W X rb fgs c s K own Af cf Am cm gh gw Ag cg) : ∀ a : Addr, Af = some a → rb < a.block ∧ a.block < W.heap.size := by
  intro a e
  have := h.rowF.lt a.block (by rw [e]; rfl)
  omega
theorem RunIn.aml (h : RunIn w0 W X rb fgs c s K own Af cf Am cm gh gw Ag cg) : ∀ a : Addr, Am = some a → rb < a.block ∧ a.block < W.heap.size := by
  intro a e
  have := h.rowM.lt a.block (by rw [e]; rfl)
  omega
/-- What isn't the old world's has a number of its own. -/
theorem RunIn.new (h : RunIn w0 W X rb fgs c s K own Af cf Am cm gh gw Ag cg) {b k : Nat} (hk : own b = k) (h0 : k ≠ 0) : w0.heap.size ≤ b := by
  rcases Nat.lt_or_ge b w0.heap.size with hb | hb
  · exact absurd ((h.old b hb).symm.trans hk).symm h0
  · exact hb
/-- Blocks of one alone (k') have changed, and new ones are k's. -/
theorem RunIn.step (h : RunIn w0 W X rb fgs c s K own Af cf Am cm gh gw Ag cg) {W' : World} {S : Nat → Prop} {k' : Nat} (t : Touch S W W') (hS : ∀ b, b < W.heap.size → S b → own b = k' ∧ w0.heap.size ≤ b) (k : Nat) :
    (k' ≠ 2 → HX w0 W' gh gw X.l.heap.toNat s.hp (Oth (relab own W k) 2 W')) ∧
    (∀ i (h : i < fgs.length) (h' : i < s.frs.length), k' ≠ 3 + i → FO w0 W' fgs[i] c s.frs[i] (Oth (relab own W k) (3 + i) W')) ∧
    (k' ≠ 1 → Blk W' rb (rcells X (.slice Af fgs.length cf) (.slice Am s.ms.length cm) gh (.slice Ag s.gl.length cg) s) ∧ W'.ownsRow (rb + 1) 66 1 (.slice Af fgs.length cf) fgs.length (ptrs fgs) ∧ W'.ownsRow (rb + 1) 3 1 (.slice Am s.ms.length cm) s.ms.length (ints s.ms) ∧ GlAt W' (relab own W k) rb Af Am Ag s.gl) ∧
    Mine (relab own W k) rb Af Am ∧ (∀ b, b < w0.heap.size → relab own W k b = 0) ∧ (∀ b, K b → b < W'.heap.size ∧ relab own W k b = 0) ∧ Below w0.heap.size w0 W' := by
  have hs := t.size
  refine ⟨fun hk => h.heap.other t (fun b hb e => ⟨by rw [(hS b hb e).1]; exact hk, (hS b hb e).2⟩) k, fun i hi hi' hk => (h.fr i hi hi').other t (fun b hb e => ⟨by rw [(hS b hb e).1]; exact hk, (hS b hb e).2⟩) k, fun hk => ⟨?_, ?_, ?_, ?_⟩, ?_, ?_, ?_, ?_⟩
  · exact h.blk.touch t (fun e => hk ((hS _ h.rbl e).1.symm.trans h.mine.rb))
  · exact t.row h.rowF (fun g o c e e2 => by
      have e3 : Af = some ⟨g, 0, none⟩ := by injection e
      exact hk ((hS _ (h.afl _ e3).2 e2).1.symm.trans (h.mine.af _ e3)))
  · exact t.row h.rowM (fun g o c e e2 => by
      have e3 : Am = some ⟨g, 0, none⟩ := by injection e
      exact hk ((hS _ (h.aml _ e3).2 e2).1.symm.trans (h.mine.am _ e3)))
  · rcases h.gl with e | ⟨gb, e1, e2, e3, e4⟩
    · exact .inl e
    · exact .inr ⟨gb, e1, by rw [relab_old e3.l]; exact e2, e3.touch t (fun e => hk ((hS _ e3.l e).1.symm.trans e2)), e4⟩
  · exact ⟨by rw [relab_old h.rbl]; exact h.mine.rb, fun a e => by rw [relab_old (h.afl a e).2]; exact h.mine.af a e, fun a e => by rw [relab_old (h.aml a e).2]; exact h.mine.am a e, h.mine.ne⟩
  · intro b hb
    rw [relab_old (Nat.lt_of_lt_of_le hb h.bw.size)]
    exact h.old b hb
  · intro b hb
    obtain ⟨h1, h2⟩ := h.kk b hb
    exact ⟨Nat.lt_of_lt_of_le h1 hs, by rw [relab_old h1]; exact h2⟩
  · exact h.bw.trans (t.old.below h.bw.size (fun b e => (hS b e.1 e.2).2))
end
end Go.Proofs.Ytkhgpeejmbfmjaa
/- The run in memory: steps of a frame, of the heap, of the run's own cells; calls behind one another. -/
namespace Go.Proofs.Ytkhgpeejmbfmjaa
open Go.RowKit
set_option linter.unusedSimpArgs false
set_option linter.unusedVariables false
set_option maxRecDepth 100000

/-- The topmost frame's block. -/
def Topf (fgs : List Nat) (fg : Nat) : Prop := ∃ l, fgs = l ++ [fg]
section
variable {w0 W : World} {X : Sx} {rb : Nat} {fgs : List Nat} {c : Nat} {s : Mc} {K : Nat → Prop}
theorem top_of {frs : List Fr} {n : Nat} (h : frs.length = n + 1) : ∃ F, frs = frs.dropLast ++ [F] ∧ frs.getLast?.getD zf = F ∧ frs.dropLast.length = n := by
  rcases List.eq_nil_or_concat frs with e | ⟨l, v, e⟩
  · rw [e] at h; simp at h
  · rw [List.concat_eq_append] at e
    subst e
    exact ⟨v, by simp, by simp, by simp at h ⊢; omega⟩
theorem getElem_of_opt {l : List Fr} {i : Nat} {F : Fr} (h : i < l.length) (e : l[i]? = some F) : l[i] = F := by
  rw [List.getElem?_eq_getElem h] at e
  exact Option.some.inj e
theorem McOk.upd (h : McOk X c s) (h1 : s.frs ≠ []) (F : Fr) {c' : Nat} (hc : c ≤ c') (hc2 : c' ≤ 25000) : McOk X c' (s.upd F) := by
  have hl : (s.upd F).frs.length = s.frs.length := by
    unfold Mc.upd
    dsimp only
    rw [List.length_append, List.length_dropLast]
    have := List.length_pos_iff.2 h1
    simp; omega
  exact { h with ml := by rw [hl]; exact h.ml, hl := Nat.le_trans h.hl hc, fl := by rw [hl]; exact h.fl, cl := hc2 }
/-- The topmost frame, and what its steps leave. -/
theorem RunAt.top (h : RunAt w0 W X rb fgs c s K) {fg : Nat} (hf : Topf fgs fg) :
    ∃ KF : Nat → Prop, FO w0 W fg c s.top KF ∧ ∀ (W' : World) (c' : Nat) (F' : Fr), FO w0 W' fg c' F' KF → Touch (fun b => ¬ KF b) W W' → c ≤ c' → c' ≤ 25000 → RunK w0 W X rb fgs c' (s.upd F') K W' := by
  obtain ⟨own, Af, cf, Am, cm, gh, gw, Ag, cg, h⟩ := h
  obtain ⟨l, rfl⟩ := hf
  have hn : s.frs.length = l.length + 1 := by rw [← h.frl]; simp
  obtain ⟨F, e1, e2, e3⟩ := top_of hn
  have hi : l.length < (l ++ [fg]).length := by simp
  have hi' : l.length < s.frs.length := by omega
  have k1 := h.fr l.length hi hi'
  have e4 : s.frs[l.length] = F := by
    have : s.frs[l.length]? = some F := by rw [e1, List.getElem?_append_right (by omega), e3, Nat.sub_self]; rfl
    rw [List.getElem?_eq_getElem hi'] at this
    exact Option.some.inj this
  rw [e4, List.getElem_append_right (Nat.le_refl _)] at k1
  simp only [Nat.sub_self, List.getElem_cons_zero] at k1
  refine ⟨Oth own (3 + l.length) W, by unfold Mc.top; rw [e2]; exact k1, ?_⟩
  intro W' c' F' hF t hc hc2
  have ne : s.frs ≠ [] := by intro e; rw [e] at hn; simp at hn
  have t' : Touch (fun b => own b = 3 + l.length) W W' := t.mono (fun b hb e => Classical.byContradiction (fun e2 => e ⟨hb, e2⟩))
  obtain ⟨s1, s2, s3, s4, s5, s6, s7⟩ := h.step t' (fun b hb e => ⟨e, h.new e (by omega)⟩) (3 + l.length)
  obtain ⟨b1, b2, b3, b4⟩ := s3 (by omega)
  refine ⟨⟨relab own W (3 + l.length), Af, cf, Am, cm, gh, gw, Ag, cg, ⟨b1, b2, b3, s1 (by omega), ?_, ?_, b4, s4, s5, s6, s7, h.md, h.ok.upd ne F' hc hc2, h.ghe⟩⟩, t'.mono (fun b hb e hk => by have := (h.kk b hk).2; omega)⟩
  · show _ = (s.frs.dropLast ++ [F']).length
    simp [e3]
  · intro i hi hi'
    have hi2 : i < l.length + 1 := by simpa using hi
    by_cases he : i = l.length
    · subst he
      have e5 : (s.upd F').frs[l.length] = F' := by
        refine getElem_of_opt hi' ?_
        show (s.frs.dropLast ++ [F'])[l.length]? = some F'
        rw [List.getElem?_append_right (by omega), e3, Nat.sub_self]
        rfl
      rw [e5, List.getElem_append_right (Nat.le_refl _)]
      simp only [Nat.sub_self, List.getElem_cons_zero]
      exact hF.mine
    · have hi3 : i < s.frs.length := by omega
      have e5 : (s.upd F').frs[i] = s.frs[i] := by
        refine getElem_of_opt hi' ?_
        show (s.frs.dropLast ++ [F'])[i]? = some s.frs[i]
        rw [List.getElem?_append_left (by omega), List.getElem?_eq_getElem (by omega), List.getElem_dropLast]
      rw [e5]
      exact (s2 i hi hi3 (by omega)).mono hc
/-- The heap, and what its steps leave. -/
theorem RunAt.heap (h : RunAt w0 W X rb fgs c s K) :
    ∃ (gw : Nat) (KH : Nat → Prop), W.cell? ⟨rb, 6, none⟩ = some (.pointer (some ⟨X.gh, 0, none⟩)) ∧ X.gh < W.heap.size ∧ HX w0 W X.gh gw X.l.heap.toNat s.hp KH ∧ ∀ (W' : World) (c' : Nat) (hp' : List (List Int)), HX w0 W' X.gh gw X.l.heap.toNat hp' KH → Touch (fun b => ¬ KH b) W W' → c ≤ c' → c' ≤ 25000 → hp'.length ≤ c' → (∀ r ∈ hp', ∀ z ∈ r, I64 z) →
      RunK w0 W X rb fgs c' { s with hp := hp' } K W' := by
  obtain ⟨own, Af, cf, Am, cm, gh, gw, Ag, cg, h⟩ := h
  obtain rfl := h.ghe
  refine ⟨gw, Oth own 2 W, h.blk.c 6 _ rfl, ?_, h.heap, ?_⟩
  · obtain ⟨base, A, cap, h0, -⟩ := h.heap.ex
    exact h0.hb.l
  intro W' c' hp' hH t hc hc2 hl hw
  have t' : Touch (fun b => own b = 2) W W' := t.mono (fun b hb e => Classical.byContradiction (fun e2 => e ⟨hb, e2⟩))
  obtain ⟨s1, s2, s3, s4, s5, s6, s7⟩ := h.step t' (fun b hb e => ⟨e, h.new e (by omega)⟩) 2
  obtain ⟨b1, b2, b3, b4⟩ := s3 (by omega)
  refine ⟨⟨relab own W 2, Af, cf, Am, cm, X.gh, gw, Ag, cg, ⟨b1, b2, b3, hH.mine, h.frl, fun i hi hi' => (s2 i hi hi' (by omega)).mono hc, b4, s4, s5, s6, s7, h.md, { h.ok with hl := hl, hw := hw, cl := hc2 }, h.ghe⟩⟩, t'.mono (fun b hb e hk => by have := (h.kk b hk).2; omega)⟩
/-- Other cells of the run's own. -/
theorem RunAt.cells (h : RunAt w0 W X rb fgs c s K) {W' : World} {s' : Mc} (t : Touch (fun b => b = rb) W W') (hb : ∀ sf sm gh sg, Blk W rb (rcells X sf sm gh sg s) → Blk W' rb (rcells X sf sm gh sg s'))
    (e1 : s'.frs = s.frs) (e2 : s'.ms = s.ms) (e3 : s'.hp = s.hp) (e4 : s'.gl = s.gl) (he : I64 s'.e) (ho : I64 s'.out.1 ∧ VOk s'.out.2) : RunK w0 W X rb fgs c s' K W' := by
  obtain ⟨own, Af, cf, Am, cm, gh, gw, Ag, cg, h⟩ := h
  obtain ⟨s1, s2, s3, s4, s5, s6, s7⟩ := h.step (k' := 1) t (fun b hb e => by have e : b = rb := e; rw [e]; exact ⟨h.mine.rb, h.new h.mine.rb (by omega)⟩) 1
  refine ⟨⟨relab own W 1, Af, cf, Am, cm, gh, gw, Ag, cg, ⟨?_, ?_, ?_, ?_, ?_, ?_, ?_, s4, s5, s6, s7, h.md, ?_, h.ghe⟩⟩, t.mono (fun b hb e hk => by have e : b = rb := e; have h1 := (h.kk b hk).2; rw [e] at h1; have := h.mine.rb; omega)⟩
  · rw [e2, e4]; exact hb _ _ _ _ h.blk
  · exact t.row h.rowF (fun g o c e e5 => by
      have e6 : Af = some ⟨g, 0, none⟩ := by injection e
      have := (h.afl _ e6).1
      have e5 : g = rb := e5
      simp only at this
      omega)
  · rw [e2]
    exact t.row h.rowM (fun g o c e e5 => by
      have e6 : Am = some ⟨g, 0, none⟩ := by injection e
      have := (h.aml _ e6).1
      have e5 : g = rb := e5
      simp only at this
      omega)
  · rw [e3]; exact s1 (by omega)
  · rw [e1]; exact h.frl
  · intro i hi hi'
    have hi2 : i < s.frs.length := by rw [← e1]; exact hi'
    have e7 : s'.frs[i] = s.frs[i] := by simp only [e1]
    rw [e7]
    exact s2 i hi hi2 (by omega)
  · rw [e4]
    rcases h.gl with e | ⟨gb, g1, g2, g3, g4, g5⟩
    · exact .inl e
    · exact .inr ⟨gb, g1, by rw [relab_old g3.l]; exact g2, g3.touch t g4, g4, g5⟩
  · have k := h.ok
    exact ⟨by rw [e1, e2]; exact k.ml, by rw [e2]; exact k.mi, by rw [e3]; exact k.hl, by rw [e3]; exact k.hw, by rw [e4]; exact k.gv, by rw [e4]; exact k.gn, by rw [e1]; exact k.fl, k.cl, he, ho⟩
/-- New blocks are nobody's of the run. -/
theorem RunAt.below (h : RunAt w0 W X rb fgs c s K) {W' : World} (hb : Below W.heap.size W W') : RunAt w0 W' X rb fgs c s (fun b => K b ∨ (W.heap.size ≤ b ∧ b < W'.heap.size)) := by
  obtain ⟨own, Af, cf, Am, cm, gh, gw, Ag, cg, h⟩ := h
  obtain ⟨s1, s2, s3, s4, s5, s6, s7⟩ := h.step (k' := 0) (Touch.of_below hb (Nat.le_refl _) (fun _ => False)) (fun b hb e => e.elim) 0
  obtain ⟨b1, b2, b3, b4⟩ := s3 (by omega)
  refine ⟨relab own W 0, Af, cf, Am, cm, gh, gw, Ag, cg, ⟨b1, b2, b3, s1 (by omega), h.frl, fun i hi hi' => s2 i hi hi' (by omega), b4, s4, s5, ?_, s7, h.md, h.ok, h.ghe⟩⟩
  rintro b (hk | ⟨hk1, hk2⟩)
  · exact s6 b hk
  · exact ⟨hk2, relab_new (by omega)⟩
/-- Another one's block has changed. -/
theorem RunAt.foreign (h : RunAt w0 W X rb fgs c s K) {W' : World} {S : Nat → Prop} (t : Touch S W W') (hS : ∀ b, b < W.heap.size → S b → K b ∧ w0.heap.size ≤ b) : RunAt w0 W' X rb fgs c s K := by
  obtain ⟨own, Af, cf, Am, cm, gh, gw, Ag, cg, h⟩ := h
  obtain ⟨s1, s2, s3, s4, s5, s6, s7⟩ := h.step (k' := 0) t (fun b hb e => ⟨(h.kk b (hS b hb e).1).2, (hS b hb e).2⟩) 0
  obtain ⟨b1, b2, b3, b4⟩ := s3 (by omega)
  exact ⟨relab own W 0, Af, cf, Am, cm, gh, gw, Ag, cg, ⟨b1, b2, b3, s1 (by omega), h.frl, fun i hi hi' => s2 i hi hi' (by omega), b4, s4, s5, s6, s7, h.md, h.ok, h.ghe⟩⟩
theorem RunAt.less (h : RunAt w0 W X rb fgs c s K) {K' : Nat → Prop} (hk : ∀ b, K' b → K b) : RunAt w0 W X rb fgs c s K' := by
  obtain ⟨own, Af, cf, Am, cm, gh, gw, Ag, cg, h⟩ := h
  exact ⟨own, Af, cf, Am, cm, gh, gw, Ag, cg, { h with kk := fun b hb => h.kk b (hk b hb) }⟩
theorem RunAt.kl (h : RunAt w0 W X rb fgs c s K) : ∀ b, K b → b < W.heap.size := by
  obtain ⟨own, Af, cf, Am, cm, gh, gw, Ag, cg, h⟩ := h
  exact fun b hb => (h.kk b hb).1
theorem RunAt.z (h : RunAt w0 W X rb fgs c s K) : w0.heap.size ≤ W.heap.size := by
  obtain ⟨own, Af, cf, Am, cm, gh, gw, Ag, cg, h⟩ := h
  exact h.bw.size
theorem RunAt.bw (h : RunAt w0 W X rb fgs c s K) : Below w0.heap.size w0 W := by
  obtain ⟨own, Af, cf, Am, cm, gh, gw, Ag, cg, h⟩ := h
  exact h.bw
theorem RunAt.ok (h : RunAt w0 W X rb fgs c s K) : McOk X c s := by
  obtain ⟨own, Af, cf, Am, cm, gh, gw, Ag, cg, h⟩ := h
  exact h.ok
theorem RunAt.md (h : RunAt w0 W X rb fgs c s K) : ModAt W X := by
  obtain ⟨own, Af, cf, Am, cm, gh, gw, Ag, cg, h⟩ := h
  exact h.md.below h.bw
theorem RunAt.rbl (h : RunAt w0 W X rb fgs c s K) : rb < W.heap.size := by
  obtain ⟨own, Af, cf, Am, cm, gh, gw, Ag, cg, h⟩ := h
  exact h.rbl
theorem RunAt.rf (h : RunAt w0 W X rb fgs c s K) (o : Nat) : W.frozen? ⟨rb, o, none⟩ = false := by
  obtain ⟨own, Af, cf, Am, cm, gh, gw, Ag, cg, h⟩ := h
  exact h.blk.f o
theorem RunAt.rk (h : RunAt w0 W X rb fgs c s K) : ¬ K rb := by
  obtain ⟨own, Af, cf, Am, cm, gh, gw, Ag, cg, h⟩ := h
  intro hk
  have := (h.kk rb hk).2
  have := h.mine.rb
  omega
/-- The cells that hang on no place. -/
theorem RunAt.rc (h : RunAt w0 W X rb fgs c s K) : ∃ sf sm gh sg, Blk W rb (rcells X sf sm gh sg s) := by
  obtain ⟨own, Af, cf, Am, cm, gh, gw, Ag, cg, h⟩ := h
  exact ⟨_, _, _, _, h.blk⟩
theorem RunAt.frl (h : RunAt w0 W X rb fgs c s K) : fgs.length = s.frs.length := by
  obtain ⟨own, Af, cf, Am, cm, gh, gw, Ag, cg, h⟩ := h
  exact h.frl
theorem RunAt.ne (h : RunAt w0 W X rb fgs c s K) {fg : Nat} (hf : Topf fgs fg) : s.frs ≠ [] := by
  have := h.frl
  obtain ⟨l, rfl⟩ := hf
  intro e
  rw [e] at this
  simp at this
theorem upd_top (h : s.frs ≠ []) : s.upd s.top = s := by
  unfold Mc.upd Mc.top
  rcases List.eq_nil_or_concat s.frs with e | ⟨l, v, e⟩
  · exact absurd e h
  · rw [List.concat_eq_append] at e
    have : s.frs.dropLast ++ [s.frs.getLast?.getD zf] = s.frs := by rw [e]; simp
    rw [this]
theorem RunAt.topVals (h : RunAt w0 W X rb fgs c s K) {fg : Nat} (hf : Topf fgs fg) : (∀ v ∈ s.top.locs, VOk v) ∧ (∀ v ∈ s.top.stk, VOk v) ∧ fg < W.heap.size := by
  obtain ⟨KF, h1, -⟩ := h.top hf
  refine ⟨h1.vals.1, h1.vals.2, ?_⟩
  obtain ⟨base, gm, nm, A, cap, h0, -⟩ := h1.ex
  exact h0.blk.l

/-- Where a function stands that began in W0 with K0's blocks foreign. -/
structure Rk (w0 W0 : World) (K0 : Nat → Prop) (W : World) (K : Nat → Prop) (X : Sx) (rb : Nat) (fgs : List Nat) (c : Nat) (s : Mc) : Prop where
  r : RunAt w0 W X rb fgs c s K
  t : Touch (fun b => ¬ K0 b) W0 W
  k : ∀ b, K0 b → K b
  n : ∀ b, K0 b → b < W0.heap.size
  z : w0.heap.size ≤ W0.heap.size
theorem RunAt.rk0 (h : RunAt w0 W X rb fgs c s K) : Rk w0 W K W K X rb fgs c s := ⟨h, Touch.refl _ _, fun _ e => e, h.kl, h.z⟩
variable {W0 : World} {K0 : Nat → Prop}
theorem Rk.below (h : Rk w0 W0 K0 W K X rb fgs c s) {W' : World} (hb : Below W.heap.size W W') : ∃ K', Rk w0 W0 K0 W' K' X rb fgs c s ∧ (∀ b, K b → K' b) ∧ ∀ b, W.heap.size ≤ b → b < W'.heap.size → K' b :=
  ⟨_, ⟨h.r.below hb, h.t.trans' (Touch.of_below hb (Nat.le_refl _) (fun _ => False)) (fun _ _ e => e.elim), fun b e => .inl (h.k b e), h.n, h.z⟩, fun b e => .inl e, fun b e e2 => .inr ⟨e, e2⟩⟩
theorem Rk.alloc (h : Rk w0 W0 K0 W K X rb fgs c s) (o : Obj) : ∃ K', Rk w0 W0 K0 (W.alloc o) K' X rb fgs c s ∧ (∀ b, K b → K' b) ∧ K' W.heap.size := by
  obtain ⟨K', h1, h2, h3⟩ := h.below ((Below.refl _ _).alloc (Nat.le_refl _) o)
  exact ⟨K', h1, h2, h3 _ (Nat.le_refl _) (by simp)⟩
theorem Rk.call (h : Rk w0 W0 K0 W K X rb fgs c s) {W' : World} {fgs' : List Nat} {c' : Nat} {s' : Mc} (hc : RunK w0 W X rb fgs' c' s' K W') : Rk w0 W0 K0 W' K X rb fgs' c' s' :=
  ⟨hc.1, h.t.trans' hc.2 (fun b _ e hk => e (h.k b hk)), h.k, h.n, h.z⟩
theorem Rk.foreign (h : Rk w0 W0 K0 W K X rb fgs c s) {W' : World} {S : Nat → Prop} (t : Touch S W W') (hS : ∀ b, b < W.heap.size → S b → K b ∧ W0.heap.size ≤ b) : Rk w0 W0 K0 W' K X rb fgs c s :=
  ⟨h.r.foreign t (fun b hb e => ⟨(hS b hb e).1, Nat.le_trans h.z (hS b hb e).2⟩), h.t.trans' t (fun b hb e hk => by have := (hS b (Nat.lt_of_lt_of_le hb h.t.size) e).2; omega), h.k, h.n, h.z⟩
theorem Rk.set (h : Rk w0 W0 K0 W K X rb fgs c s) {b : Nat} (hb : K b) (hn : W0.heap.size ≤ b) (j : Nat) (v : Value) : Rk w0 W0 K0 (W.setCell ⟨b, j, none⟩ v) K X rb fgs c s :=
  h.foreign (S := fun x => x = b) ((Touch.refl _ _).setCell _ _ (fun _ => rfl)) (fun x hx e => by have e : x = b := e; rw [e]; exact ⟨hb, hn⟩)
theorem Rk.done (h : Rk w0 W0 K0 W K X rb fgs c s) : RunK w0 W0 X rb fgs c s K0 W := ⟨h.r.less h.k, h.t⟩
theorem Blk.keep {b : Nat} {vs : List Value} (hb : Blk W b vs) {W' : World} (t : Touch (fun b => ¬ K b) W W') (hk : K b) : Blk W' b vs := hb.touch t (fun e => e hk)
end
end Go.Proofs.Ytkhgpeejmbfmjaa
/- The run in memory: its cells; what frames and heap answer to it; cant. -/
namespace Go.Proofs.Ytkhgpeejmbfmjaa
open Go.RowKit
set_option linter.unusedSimpArgs false
set_option linter.unusedVariables false
set_option maxRecDepth 100000
section
variable {w0 W : World} {X : Sx} {rb : Nat} {fgs : List Nat} {c : Nat} {s : Mc} {K : Nat → Prop}
theorem RunAt.c1 (h : RunAt w0 W X rb fgs c s K) : W.cell? ⟨rb, 1, none⟩ = some (.slice X.mp X.np X.cp) := by obtain ⟨_, _, _, _, b⟩ := h.rc; exact b.c 1 _ rfl
theorem RunAt.c2 (h : RunAt w0 W X rb fgs c s K) : W.cell? ⟨rb, 2, none⟩ = some (.slice X.mm X.nm X.cm) := by obtain ⟨_, _, _, _, b⟩ := h.rc; exact b.c 2 _ rfl
theorem RunAt.c8 (h : RunAt w0 W X rb fgs c s K) : W.cell? ⟨rb, 8, none⟩ = some (.int .i64 X.l.fuel) := by obtain ⟨_, _, _, _, b⟩ := h.rc; exact b.c 8 _ rfl
theorem RunAt.c9 (h : RunAt w0 W X rb fgs c s K) : W.cell? ⟨rb, 9, none⟩ = some (.int .i64 X.l.stack) := by obtain ⟨_, _, _, _, b⟩ := h.rc; exact b.c 9 _ rfl
theorem RunAt.c11 (h : RunAt w0 W X rb fgs c s K) : W.cell? ⟨rb, 11, none⟩ = some (.int .i64 s.fu) := by obtain ⟨_, _, _, _, b⟩ := h.rc; exact b.c 11 _ rfl
theorem RunAt.c12 (h : RunAt w0 W X rb fgs c s K) : W.cell? ⟨rb, 12, none⟩ = some (.int .i64 s.st) := by obtain ⟨_, _, _, _, b⟩ := h.rc; exact b.c 12 _ rfl
theorem RunAt.c13 (h : RunAt w0 W X rb fgs c s K) : W.cell? ⟨rb, 13, none⟩ = some (.int .i64 0) := by obtain ⟨_, _, _, _, b⟩ := h.rc; exact b.c 13 _ rfl
theorem RunAt.c14 (h : RunAt w0 W X rb fgs c s K) : W.cell? ⟨rb, 14, none⟩ = some (.int .i64 s.e) := by obtain ⟨_, _, _, _, b⟩ := h.rc; exact b.c 14 _ rfl
theorem RunAt.c15 (h : RunAt w0 W X rb fgs c s K) : W.cell? ⟨rb, 15, none⟩ = some (.bool s.over) := by obtain ⟨_, _, _, _, b⟩ := h.rc; exact b.c 15 _ rfl
theorem RunAt.c16 (h : RunAt w0 W X rb fgs c s K) : W.cell? ⟨rb, 16, none⟩ = some (.int .i64 s.out.1) := by obtain ⟨_, _, _, _, b⟩ := h.rc; exact b.c 16 _ rfl
theorem RunAt.c17 (h : RunAt w0 W X rb fgs c s K) : W.cell? ⟨rb, 17, none⟩ = some (.int .u8 s.out.2.1) := by obtain ⟨_, _, _, _, b⟩ := h.rc; exact b.c 17 _ rfl
theorem RunAt.c18 (h : RunAt w0 W X rb fgs c s K) : W.cell? ⟨rb, 18, none⟩ = some (.int .i64 s.out.2.2.1) := by obtain ⟨_, _, _, _, b⟩ := h.rc; exact b.c 18 _ rfl
theorem RunAt.c19 (h : RunAt w0 W X rb fgs c s K) : W.cell? ⟨rb, 19, none⟩ = some (.int .i64 s.out.2.2.2) := by obtain ⟨_, _, _, _, b⟩ := h.rc; exact b.c 19 _ rfl
/-- The error, set. -/
theorem RunAt.setE (h : RunAt w0 W X rb fgs c s K) (e : Int) (he : I64 e) : RunK w0 W X rb fgs c { s with e := e } K (W.setCell ⟨rb, 14, none⟩ (.int .i64 e)) :=
  h.cells ((Touch.refl (fun b => b = rb) W).setCell _ _ (fun _ => rfl)) (fun sf sm gh sg b => b.set (j := 14) rfl (.int .i64 e)) rfl rfl rfl rfl he h.ok.out

/-! What the topmost frame answers. -/
theorem popB_top {F : Fr} {k : Int} (h : popB F k = false) : popF F k = F := by unfold popF; rw [h]; rfl
variable {fg : Nat}
theorem r_pop (h : RunAt w0 W X rb fgs c s K) (hf : Topf fgs fg) (k : Int) (hk : 0 ≤ k ∧ k ≤ 255) : Calls Try.prog 69 #[.pointer (some ⟨fg, 0, none⟩), .int .u8 k] W fun e W' => e = .returned (.tuple #[vagg (popV s.top k), .bool (popB s.top k)]) ∧ RunK w0 W X rb fgs c (s.upd (popF s.top k)) K W' := by
  obtain ⟨KF, h1, h2⟩ := h.top hf
  refine (fo_pop h1 k hk).mono ?_
  rintro e W' ⟨rfl, h3, t⟩
  exact ⟨rfl, h2 W' c _ h3 t (Nat.le_refl _) h.ok.cl⟩
theorem r_push (h : RunAt w0 W X rb fgs c s K) (hf : Topf fgs fg) (v : V) (hv : VOk v) : Calls Try.prog 62 #[.pointer (some ⟨fg, 0, none⟩), vagg v] W fun e W' => e = .returned (.bool (pushB s.top v)) ∧ RunK w0 W X rb fgs c (s.upd (pushF s.top v)) K W' := by
  obtain ⟨KF, h1, h2⟩ := h.top hf
  refine (fo_push h1 v hv).mono ?_
  rintro e W' ⟨rfl, h3, t⟩
  exact ⟨rfl, h2 W' c _ h3 t (Nat.le_refl _) h.ok.cl⟩
theorem r_go (h : RunAt w0 W X rb fgs c s K) (hf : Topf fgs fg) (p : Int) : Calls Try.prog 24 #[.pointer (some ⟨fg, 0, none⟩), .int .i64 p] W fun e W' => e = .returned (.tuple #[]) ∧ RunK w0 W X rb fgs c (s.upd (goF s.top p)) K W' := by
  obtain ⟨KF, h1, h2⟩ := h.top hf
  refine (fo_go h1 p).mono ?_
  rintro e W' ⟨rfl, h3, t⟩
  exact ⟨rfl, h2 W' c _ h3 t (Nat.le_refl _) h.ok.cl⟩
theorem r_place (h : RunAt w0 W X rb fgs c s K) (hf : Topf fgs fg) : Calls Try.prog 23 #[.pointer (some ⟨fg, 0, none⟩)] W fun e W' => e = .returned (.int .i64 s.top.place) ∧ W' = W := by
  obtain ⟨KF, h1, h2⟩ := h.top hf
  exact fo_place h1
theorem r_begin (h : RunAt w0 W X rb fgs c s K) (hf : Topf fgs fg) (l t : Int) (hl : I64 l) (ht : I64 t) (hc : c < 25000) : Calls Try.prog 71 #[.pointer (some ⟨fg, 0, none⟩), .int .i64 l, .int .i64 t] W fun e W' => e = .returned (.tuple #[]) ∧ RunK w0 W X rb fgs (c + 1) (s.upd (begF s.top l t)) K W' := by
  obtain ⟨KF, h1, h2⟩ := h.top hf
  refine (fo_begin h1 l t hl ht (by omega)).mono ?_
  rintro e W' ⟨rfl, h3, t⟩
  exact ⟨rfl, h2 W' (c + 1) _ h3 t (by omega) (by omega)⟩
theorem r_again (h : RunAt w0 W X rb fgs c s K) (hf : Topf fgs fg) (l : Int) (hl : I64 l) (hc : c < 25000) : Calls Try.prog 72 #[.pointer (some ⟨fg, 0, none⟩), .int .i64 l] W fun e W' => e = .returned (.tuple #[.bool (decide (1 < s.top.turns l)), .bool (decide (0 < s.top.turns l))]) ∧ RunK w0 W X rb fgs (c + 1) (s.upd (agaF s.top l)) K W' := by
  obtain ⟨KF, h1, h2⟩ := h.top hf
  refine (fo_again h1 l hl (by omega)).mono ?_
  rintro e W' ⟨rfl, h3, t⟩
  exact ⟨rfl, h2 W' (c + 1) _ h3 t (by omega) (by omega)⟩
theorem r_get (h : RunAt w0 W X rb fgs c s K) (hf : Topf fgs fg) (i : Int) : Calls Try.prog 50 #[.pointer (some ⟨fg, 0, none⟩), .int .i64 i] W fun e W' => e = .returned (.tuple #[vagg (getV s.top i), .bool (getB s.top i)]) ∧ Below W.heap.size W W' := by
  obtain ⟨KF, h1, h2⟩ := h.top hf
  exact fo_get h1 i
theorem r_set (h : RunAt w0 W X rb fgs c s K) (hf : Topf fgs fg) (i : Int) (v : V) (hv : VOk v) : Calls Try.prog 51 #[.pointer (some ⟨fg, 0, none⟩), .int .i64 i, vagg v] W fun e W' => e = .returned (.bool (setB s.top i v)) ∧ RunK w0 W X rb fgs c (s.upd (setF s.top i v)) K W' := by
  obtain ⟨KF, h1, h2⟩ := h.top hf
  refine (fo_set h1 i v hv).mono ?_
  rintro e W' ⟨rfl, h3, t⟩
  exact ⟨rfl, h2 W' c _ h3 t (Nat.le_refl _) h.ok.cl⟩
theorem getV_ok (h : RunAt w0 W X rb fgs c s K) (hf : Topf fgs fg) (i : Int) : VOk (getV s.top i) := by
  have h1 := (h.topVals hf).1
  have z : VOk zv := by unfold VOk zv I64; simp
  unfold getV
  split
  · cases hq : s.top.locs[i.toNat]? with
    | none => exact z
    | some v => exact h1 v (List.mem_of_getElem? hq)
  · exact z
theorem popV_ok (h : RunAt w0 W X rb fgs c s K) (hf : Topf fgs fg) (k : Int) : VOk (popV s.top k) := by
  have h1 := (h.topVals hf).2.1
  have z : VOk zv := by unfold VOk zv I64; simp
  unfold popV topV
  split
  · cases hq : s.top.stk.getLast? with
    | none => exact z
    | some v => exact h1 v (List.mem_of_getLast? hq)
  · exact z

/-! cant -/
theorem cant_at (h : RunAt w0 W X rb fgs c s K) : Calls Try.prog 52 #[.pointer (some ⟨rb, 0, none⟩)] W fun e W' => e = .returned (.tuple #[]) ∧ RunK w0 W X rb fgs c s.cant K W' := by
  have hc := h.c14
  have hf := h.rf 14
  have hl := h.rbl
  by_cases he : s.e = 0
  · have hfin : Hid (RunK w0 W X rb fgs c s.cant K (W.setCell ⟨rb, 14, none⟩ (.int .i64 40))) := Lib.hid (by
      have : s.cant = { s with e := 40 } := by unfold Mc.cant; rw [if_pos he]
      rw [this]; exact h.setE 40 (by unfold I64; omega))
    rw [he] at hc
    clear h he
    go_enter Try.func52, Try.ntmps52
    go_wp2_with fail
    go_end0
    exact ⟨rfl, hfin.out⟩
  · have hfin : Hid (RunK w0 W X rb fgs c s.cant K W) := Lib.hid (by
      have : s.cant = s := by unfold Mc.cant; rw [if_neg he]
      rw [this]; exact h.rk0.done)
    have hq : (s.e == 0) = false := by rw [beq_eq_false_iff_ne]; exact he
    clear h he
    go_enter Try.func52, Try.ntmps52
    go_wp2_with fail
    go_end0
    exact ⟨rfl, hfin.out⟩
end
end Go.Proofs.Ytkhgpeejmbfmjaa
/- The run in memory: pop, push, number, pair. -/
namespace Go.Proofs.Ytkhgpeejmbfmjaa
open Go.RowKit
set_option linter.unusedSimpArgs false
set_option linter.unusedVariables false
set_option maxRecDepth 100000
section
variable {w0 W : World} {X : Sx} {rb : Nat} {fgs : List Nat} {c : Nat} {s : Mc} {K : Nat → Prop} {fg : Nat}

/-- A block that a function makes first. -/
theorem first_block (h : RunAt w0 W X rb fgs c s K) (cs : Array Value) (t : TypeId) : ∃ (W1 : World) (b : Nat) (K1 : Nat → Prop), W.alloc (.cells cs t) = W1 ∧ W.heap.size = b ∧ Rk w0 W K W1 K1 X rb fgs c s ∧ K1 b ∧ Blk W1 b cs.toList ∧ (∀ x, K x → K1 x) := by
  obtain ⟨K1, R1, k1, k6⟩ := h.rk0.alloc (.cells cs t)
  exact ⟨_, _, K1, rfl, rfl, R1, k6, Blk.new W cs t, k1⟩

/-! pop -/
theorem pop_at (h : RunAt w0 W X rb fgs c s K) (hf : Topf fgs fg) (k : Int) (hk : 0 ≤ k ∧ k ≤ 255) : Calls Try.prog 45 #[.pointer (some ⟨rb, 0, none⟩), .pointer (some ⟨fg, 0, none⟩), .int .u8 k] W fun e W' => e = .returned (vagg (s.pop k).1) ∧ RunK w0 W X rb fgs c (s.pop k).2 K W' := by
  have hne := h.ne hf
  obtain ⟨W1, t6, K1, hW1, ht6, R1, k6, B6, -⟩ := first_block h #[.int .u8 0, .int .i64 0, .int .i64 0] 29
  have hn6 : W.heap.size ≤ t6 := by omega
  have HP := Lib.hid (r_pop R1.r hf k hk)
  have HE := Lib.hid (And.intro hW1 ht6)
  obtain ⟨⟨v0, v1, v2⟩, hv⟩ : ∃ v, popV s.top k = v := ⟨_, rfl⟩
  have HR := Lib.hid (And.intro R1 (And.intro k6 (And.intro B6 hn6)))
  rw [hv] at HP
  cases hb : popB s.top k with
  | true =>
    have e : s.pop k = ((v0, v1, v2), s.upd (popF s.top k)) := by unfold Mc.pop; rw [if_pos hb, hv]
    rw [e]
    rw [hb] at HP
    generalize s.upd (popF s.top k) = s1 at *
    unfold vagg at *
    dsimp only at *
    clear h hk hne R1 k6 B6 hn6 hW1 ht6 hv e hb
    go_enter Try.func45, Try.ntmps45
    go_wp2_with fail
    rw [HE.out.1, HE.out.2]
    clear HE
    go_wp2_with fail
    refine HP.out.mono ?_
    rintro e w2 ⟨rfl, hR⟩
    obtain ⟨R1, k6, B6, hn6⟩ := HR.out
    have R2 := R1.call hR
    have B62 := B6.keep hR.2 k6
    obtain ⟨K3, R3, k3, k7⟩ := (((R2.set k6 hn6 0 (.int .u8 v0)).set k6 hn6 1 (.int .i64 v1)).set k6 hn6 2 (.int .i64 v2)).alloc (.cells #[.int .u8 v0, .int .i64 v1, .int .i64 v2] 29)
    have bz := (((B62.set (j := 0) rfl (.int .u8 v0)).set (j := 1) rfl (.int .i64 v1)).set (j := 2) rfl (.int .i64 v2)).alloc (.cells #[.int .u8 v0, .int .i64 v1, .int .i64 v2] 29)
    have s0 := B62.c 0 _ rfl
    have s1 := B62.c 1 _ rfl
    have s2 := B62.c 2 _ rfl
    have fs0 := B62.f 0
    have fs1 := B62.f 1
    have fs2 := B62.f 2
    have ls := B62.l
    have z0 := bz.c 0 _ rfl
    have z1 := bz.c 1 _ rfl
    have z2 := bz.c 2 _ rfl
    have HB := Lib.hid R3.done
    clear R2 B62 R3 bz hR R1 k6 B6 hn6 k3 k7
    go_wp2_with fail
    exact bodyPost_ret (v := .agg #[.int .u8 v0, .int .i64 v1, .int .i64 v2]) (by simp [results, Try.results45, go_sem, z0, z1, z2]) rfl ⟨rfl, HB.out⟩
  | false =>
    have e : s.pop k = ((v0, v1, v2), s.cant) := by unfold Mc.pop; rw [if_neg (by rw [hb]; decide), hv]
    have e2 : s.upd (popF s.top k) = s := by rw [popB_top hb, upd_top hne]
    rw [e]
    rw [hb, e2] at HP
    unfold vagg at *
    dsimp only at *
    clear h hk hne R1 k6 B6 hn6 hW1 ht6 hv e hb e2
    go_enter Try.func45, Try.ntmps45
    go_wp2_with fail
    rw [HE.out.1, HE.out.2]
    clear HE
    go_wp2_with fail
    refine HP.out.mono ?_
    rintro e w2 ⟨rfl, hR⟩
    obtain ⟨R1, k6, B6, hn6⟩ := HR.out
    have R2 := R1.call hR
    have B62 := B6.keep hR.2 k6
    obtain ⟨K3, R3, k3, k7⟩ := R2.alloc (.cells #[.int .u8 v0, .int .i64 v1, .int .i64 v2] 29)
    have B63 := B62.alloc (.cells #[.int .u8 v0, .int .i64 v1, .int .i64 v2] 29)
    have B73 := Blk.new w2 #[.int .u8 v0, .int .i64 v1, .int .i64 v2] 29
    have HC := Lib.hid (cant_at R3.r)
    have HR3 := Lib.hid (And.intro R3 (And.intro (k3 _ k6) (And.intro k7 (And.intro B63 (And.intro B73 hn6)))))
    clear R2 B62 R3 B63 hR R1 k6 B6 hn6 k3 k7 B73 HR
    go_wp2_with fail
    refine HC.out.mono ?_
    rintro e w3 ⟨rfl, hR⟩
    obtain ⟨R3, k6, k7, B63, B73, hn6⟩ := HR3.out
    have R4 := R3.call hR
    have B64 := B63.keep hR.2 k6
    have B74 := B73.keep hR.2 k7
    generalize w2.heap.size = t7 at *
    have bz := ((B64.set (j := 0) rfl (.int .u8 v0)).set (j := 1) rfl (.int .i64 v1)).set (j := 2) rfl (.int .i64 v2)
    have s0 := B64.c 0 _ rfl
    have s1 := B64.c 1 _ rfl
    have s2 := B64.c 2 _ rfl
    have fs0 := B64.f 0
    have fs1 := B64.f 1
    have fs2 := B64.f 2
    have ls := B64.l
    have q0 := B74.c 0 _ rfl
    have q1 := B74.c 1 _ rfl
    have q2 := B74.c 2 _ rfl
    have fq0 := B74.f 0
    have fq1 := B74.f 1
    have fq2 := B74.f 2
    have lq := B74.l
    have z0 := bz.c 0 _ rfl
    have z1 := bz.c 1 _ rfl
    have z2 := bz.c 2 _ rfl
    have HB := Lib.hid (((R4.set k6 hn6 0 (.int .u8 v0)).set k6 hn6 1 (.int .i64 v1)).set k6 hn6 2 (.int .i64 v2)).done
    clear R4 B64 B74 R3 B63 B73 bz hR k6 hn6 k7 HR3
    go_wp2_with fail
    exact bodyPost_ret (v := .agg #[.int .u8 v0, .int .i64 v1, .int .i64 v2]) (by simp [results, Try.results45, go_sem, z0, z1, z2]) rfl ⟨rfl, HB.out⟩

/-! push -/
theorem push_at (h : RunAt w0 W X rb fgs c s K) (hf : Topf fgs fg) (v : V) (hv : VOk v) : Calls Try.prog 37 #[.pointer (some ⟨rb, 0, none⟩), .pointer (some ⟨fg, 0, none⟩), vagg v] W fun e W' => e = .returned (.tuple #[]) ∧ RunK w0 W X rb fgs c (s.push v) K W' := by
  have hne := h.ne hf
  obtain ⟨v0, v1, v2⟩ := v
  obtain ⟨W1, t5, K1, hW1, ht5, R1, k5, B5, -⟩ := first_block h #[.int .u8 v0, .int .i64 v1, .int .i64 v2] 29
  have HP := Lib.hid (r_push R1.r hf (v0, v1, v2) hv)
  have HE := Lib.hid (And.intro hW1 ht5)
  have HR := Lib.hid R1
  have c14 := R1.r.c14
  have c14w := h.c14
  have rl := R1.r.rbl
  have hrl := h.rbl
  have b0 := B5.c 0 _ rfl
  have b1 := B5.c 1 _ rfl
  have b2 := B5.c 2 _ rfl
  have lb := B5.l
  unfold vagg at *
  dsimp only at *
  by_cases he : s.e = 0
  · rw [he] at c14 c14w
    cases hb : pushB s.top (v0, v1, v2) with
    | true =>
      have e : s.push (v0, v1, v2) = s.upd (pushF s.top (v0, v1, v2)) := by unfold Mc.push; rw [if_pos he, if_pos hb]
      rw [e]
      rw [hb] at HP
      generalize s.upd (pushF s.top (v0, v1, v2)) = s1 at *
      clear h hv hne R1 k5 B5 hW1 ht5 e hb he
      go_enter Try.func37, Try.ntmps37
      go_wp2_with fail
      rw [HE.out.1, HE.out.2]
      clear HE
      go_wp2_with fail
      refine HP.out.mono ?_
      rintro e w2 ⟨rfl, hR⟩
      have HB := Lib.hid (HR.out.call hR).done
      clear hR HR
      go_wp2_with fail
      go_end0
      exact ⟨rfl, HB.out⟩
    | false =>
      have e : s.push (v0, v1, v2) = s.cant := by unfold Mc.push; rw [if_pos he, if_neg (by rw [hb]; decide)]
      have e2 : s.upd (pushF s.top (v0, v1, v2)) = s := by unfold pushF; rw [if_neg (by rw [hb]; decide), upd_top hne]
      rw [e]
      rw [hb, e2] at HP
      clear h hv hne R1 k5 B5 hW1 ht5 e hb he e2
      go_enter Try.func37, Try.ntmps37
      go_wp2_with fail
      rw [HE.out.1, HE.out.2]
      clear HE
      go_wp2_with fail
      refine HP.out.mono ?_
      rintro e w2 ⟨rfl, hR⟩
      have R2 := HR.out.call hR
      have HC := Lib.hid (cant_at R2.r)
      have HR2 := Lib.hid R2
      clear hR HR R2
      go_wp2_with fail
      refine HC.out.mono ?_
      rintro e w3 ⟨rfl, hR⟩
      have HB := Lib.hid (HR2.out.call hR).done
      clear hR HR2
      go_wp2_with fail
      go_end0
      exact ⟨rfl, HB.out⟩
  · have e : s.push (v0, v1, v2) = s := by unfold Mc.push; rw [if_neg he]
    rw [e]
    have hq : (s.e == 0) = false := by rw [beq_eq_false_iff_ne]; exact he
    have HB := Lib.hid R1.done
    clear h hv hne R1 k5 B5 hW1 ht5 e he HR HP
    go_enter Try.func37, Try.ntmps37
    go_wp2_with fail
    rw [HE.out.1, HE.out.2]
    clear HE
    go_wp2_with fail
    go_end0
    exact ⟨rfl, HB.out⟩

/-! number, pair -/
theorem field29 (a b c : Int) (w : World) : (Instr.field 29 (.agg #[.int .u8 a, .int .i64 b, .int .i64 c]) 1).run Try.prog w = .ok (.int .i64 b) w := by kernel_rfl
theorem number_at (h : RunAt w0 W X rb fgs c s K) (hf : Topf fgs fg) : Calls Try.prog 35 #[.pointer (some ⟨rb, 0, none⟩), .pointer (some ⟨fg, 0, none⟩)] W fun e W' => e = .returned (.int .i64 s.number.1) ∧ RunK w0 W X rb fgs c s.number.2 K W' := by
  have HP := Lib.hid (pop_at h hf 1 (by omega))
  unfold Mc.number
  generalize s.pop 1 = p at *
  obtain ⟨⟨v0, v1, v2⟩, s1⟩ := p
  unfold vagg at *
  dsimp only at *
  have fld := fun w => field29 v0 v1 v2 w
  clear h
  go_enter Try.func35, Try.ntmps35
  go_wp2_with fail
  refine HP.out.mono ?_
  rintro e w2 ⟨rfl, hR⟩
  have HB := Lib.hid hR
  clear hR HP
  go_wp2_with fail
  go_ret
  exact ⟨rfl, HB.out⟩
end
#print axioms push_at
#print axioms field29
#print axioms number_at
end Go.Proofs.Ytkhgpeejmbfmjaa
/- The run in memory: pair, pushed, juggle. -/
namespace Go.Proofs.Ytkhgpeejmbfmjaa
open Go.RowKit
set_option linter.unusedSimpArgs false
set_option linter.unusedVariables false
set_option maxRecDepth 100000
section
variable {w0 W : World} {X : Sx} {rb : Nat} {fgs : List Nat} {c : Nat} {s : Mc} {K : Nat → Prop} {fg : Nat}

theorem pair_at (h : RunAt w0 W X rb fgs c s K) (hf : Topf fgs fg) : Calls Try.prog 41 #[.pointer (some ⟨rb, 0, none⟩), .pointer (some ⟨fg, 0, none⟩)] W fun e W' => e = .returned (.agg #[.int .i64 s.pair.1.1, .int .i64 s.pair.1.2]) ∧ RunK w0 W X rb fgs c s.pair.2 K W' := by
  obtain ⟨W1, t4, K1, hW1, ht4, R1, k4, B4, -⟩ := first_block h #[.int .i64 0, .int .i64 0] 100
  have hn4 : W.heap.size ≤ t4 := by omega
  have HP := Lib.hid (pop_at R1.r hf 2 (by omega))
  have HE := Lib.hid (And.intro hW1 ht4)
  have HR := Lib.hid (And.intro R1 (And.intro k4 (And.intro B4 hn4)))
  unfold Mc.pair
  generalize s.pop 2 = p at *
  obtain ⟨⟨v0, v1, v2⟩, s1⟩ := p
  unfold vagg at *
  dsimp only at *
  clear h R1 k4 B4 hn4 hW1 ht4
  go_enter Try.func41, Try.ntmps41
  go_wp2_with fail
  rw [HE.out.1, HE.out.2]
  clear HE
  go_wp2_with fail
  refine HP.out.mono ?_
  rintro e w2 ⟨rfl, hR⟩
  obtain ⟨R1, k4, B4, hn4⟩ := HR.out
  have R2 := R1.call hR
  have B42 := B4.keep hR.2 k4
  obtain ⟨K3, R3, k3, k7⟩ := ((R2.set k4 hn4 0 (.int .i64 v1)).set k4 hn4 1 (.int .i64 v2)).alloc (.cells #[.int .u8 v0, .int .i64 v1, .int .i64 v2] 29)
  have bz := ((B42.set (j := 0) rfl (.int .i64 v1)).set (j := 1) rfl (.int .i64 v2)).alloc (.cells #[.int .u8 v0, .int .i64 v1, .int .i64 v2] 29)
  have s0 := B42.c 0 _ rfl
  have s1 := B42.c 1 _ rfl
  have fs0 := B42.f 0
  have fs1 := B42.f 1
  have ls := B42.l
  have z0 := bz.c 0 _ rfl
  have z1 := bz.c 1 _ rfl
  have HB := Lib.hid R3.done
  clear R2 B42 R3 bz hR R1 k4 B4 hn4 k3 k7
  go_wp2_with fail
  exact bodyPost_ret (v := .agg #[.int .i64 v1, .int .i64 v2]) (by simp [results, Try.results41, go_sem, z0, z1]) rfl ⟨rfl, HB.out⟩
/-! pushed -/
theorem pushed_at (h : RunAt w0 W X rb fgs c s K) (hf : Topf fgs fg) (a b : Int) (q : Bool) (hv : q = true → VOk (2, a, b)) : Calls Try.prog 40 #[.pointer (some ⟨rb, 0, none⟩), .pointer (some ⟨fg, 0, none⟩), .agg #[.int .i64 a, .int .i64 b], .bool q] W fun e W' => e = .returned (.int .i64 (s.pushed (a, b, q)).1) ∧ RunK w0 W X rb fgs c (s.pushed (a, b, q)).2 K W' := by
  obtain ⟨W1, t6, K1, hW1, ht6, R1, k6, B6, -⟩ := first_block h #[.int .i64 a, .int .i64 b] 100
  have HE := Lib.hid (And.intro hW1 ht6)
  have HR := Lib.hid R1
  have b0 := B6.c 0 _ rfl
  have b1 := B6.c 1 _ rfl
  have lb := B6.l
  cases q with
  | true =>
    have HP := Lib.hid (push_at R1.r hf (2, a, b) (hv rfl))
    have e : s.pushed (a, b, true) = (0, s.push (2, a, b)) := rfl
    rw [e]
    unfold vagg at *
    dsimp only at *
    generalize s.push (2, a, b) = s1 at *
    clear h hv R1 k6 B6 hW1 ht6 e
    go_enter Try.func40, Try.ntmps40
    go_wp2_with fail
    rw [HE.out.1, HE.out.2]
    clear HE
    go_wp2_with fail
    refine HP.out.mono ?_
    rintro e w2 ⟨rfl, hR⟩
    have HB := Lib.hid (HR.out.call hR).done
    clear hR HR
    go_wp2_with fail
    go_ret
    exact ⟨rfl, HB.out⟩
  | false =>
    have e : s.pushed (a, b, false) = (3, s) := rfl
    rw [e]
    have HB := Lib.hid R1.done
    clear h hv R1 k6 B6 hW1 ht6 e HR
    go_enter Try.func40, Try.ntmps40
    go_wp2_with fail
    rw [HE.out.1, HE.out.2]
    clear HE
    go_wp2_with fail
    go_ret
    exact ⟨rfl, HB.out⟩

theorem pop_ok (h : RunAt w0 W X rb fgs c s K) (hf : Topf fgs fg) (k : Int) : VOk (s.pop k).1 := popV_ok h hf k
/-! juggle -/
theorem juggle_7 (h : RunAt w0 W X rb fgs c s K) (hf : Topf fgs fg) : Calls Try.prog 34 #[.pointer (some ⟨rb, 0, none⟩), .pointer (some ⟨fg, 0, none⟩), .int .u8 7] W fun e W' => e = .returned (.tuple #[]) ∧ RunK w0 W X rb fgs c (s.juggle 7) K W' := by
  have HP := Lib.hid (pop_at h hf 0 (by omega))
  have e : s.juggle 7 = ((s.pop 0).2.push (s.pop 0).1).push (s.pop 0).1 := rfl
  have hv := pop_ok h hf 0
  rw [e]
  generalize s.pop 0 = p at *
  obtain ⟨⟨v0, v1, v2⟩, s1⟩ := p
  have HV := Lib.hid (And.intro hv hf)
  have HR := Lib.hid h.rk0
  unfold vagg at *
  dsimp only at *
  clear h hv e hf
  go_enter Try.func34, Try.ntmps34
  go_wp2_with fail
  refine HP.out.mono ?_
  rintro e w2 ⟨rfl, hR⟩
  have R2 := HR.out.call hR
  obtain ⟨K3, R3, k3, k7⟩ := R2.alloc (.cells #[.int .u8 v0, .int .i64 v1, .int .i64 v2] 29)
  have B7 := Blk.new w2 #[.int .u8 v0, .int .i64 v1, .int .i64 v2] 29
  have HC := Lib.hid (push_at R3.r HV.out.2 (v0, v1, v2) HV.out.1)
  have HR3 := Lib.hid (And.intro R3 (And.intro k7 B7))
  unfold vagg at HC
  dsimp only at HC
  clear hR HR R2 R3 k3 k7 B7
  go_wp2_with fail
  refine HC.out.mono ?_
  rintro e w3 ⟨rfl, hR⟩
  obtain ⟨R3, k7, B7⟩ := HR3.out
  have R4 := R3.call hR
  have B74 := B7.keep hR.2 k7
  have HC2 := Lib.hid (push_at R4.r HV.out.2 (v0, v1, v2) HV.out.1)
  unfold vagg at HC2
  dsimp only at HC2
  generalize w2.heap.size = t7 at *
  have s0 := B74.c 0 _ rfl
  have s1 := B74.c 1 _ rfl
  have s2 := B74.c 2 _ rfl
  have fs0 := B74.f 0
  have fs1 := B74.f 1
  have fs2 := B74.f 2
  have ls := B74.l
  have HR4 := Lib.hid R4
  clear hR R4 B74 R3 k7 B7 HR3 HC
  go_wp2_with fail
  refine HC2.out.mono ?_
  rintro e w4 ⟨rfl, hR⟩
  have HB := Lib.hid (HR4.out.call hR).done
  clear hR HR4
  go_wp2_with fail
  go_end0
  exact ⟨rfl, HB.out⟩
theorem juggle_8 (h : RunAt w0 W X rb fgs c s K) (hf : Topf fgs fg) : Calls Try.prog 34 #[.pointer (some ⟨rb, 0, none⟩), .pointer (some ⟨fg, 0, none⟩), .int .u8 8] W fun e W' => e = .returned (.tuple #[]) ∧ RunK w0 W X rb fgs c (s.juggle 8) K W' := by
  have HP := Lib.hid (pop_at h hf 0 (by omega))
  have e : s.juggle 8 = (((s.pop 0).2.pop 0).2.push (s.pop 0).1).push ((s.pop 0).2.pop 0).1 := rfl
  have hv := pop_ok h hf 0
  rw [e]
  generalize s.pop 0 = p at *
  obtain ⟨⟨v0, v1, v2⟩, s1⟩ := p
  have HV := Lib.hid (And.intro hv hf)
  have HR := Lib.hid h.rk0
  unfold vagg at *
  dsimp only at *
  obtain ⟨⟨⟨u0, u1, u2⟩, s2⟩, hp2⟩ : ∃ p, s1.pop 0 = p := ⟨_, rfl⟩
  rw [hp2]
  have HP2 := Lib.hid hp2
  clear h hv e hf hp2
  go_enter Try.func34, Try.ntmps34
  go_wp2_with fail
  refine HP.out.mono ?_
  rintro e w2 ⟨rfl, hR⟩
  have R2 := HR.out.call hR
  obtain ⟨K3, R3, k3, k7⟩ := R2.alloc (.cells #[.int .u8 v0, .int .i64 v1, .int .i64 v2] 29)
  have B7 := Blk.new w2 #[.int .u8 v0, .int .i64 v1, .int .i64 v2] 29
  have HC := Lib.hid (pop_at R3.r HV.out.2 0 (by omega))
  have HU := Lib.hid (pop_ok R3.r HV.out.2 0)
  have HR3 := Lib.hid (And.intro R3 (And.intro k7 B7))
  unfold vagg at HC
  rw [HP2.out] at HC HU
  dsimp only at HC HU
  clear hR HR R2 R3 k3 k7 B7
  go_wp2_with fail
  refine HC.out.mono ?_
  rintro e w3 ⟨rfl, hR⟩
  obtain ⟨R3, k7, B7⟩ := HR3.out
  have R4 := R3.call hR
  have B74 := B7.keep hR.2 k7
  obtain ⟨t7, ht7⟩ : ∃ t, w2.heap.size = t := ⟨_, rfl⟩
  rw [ht7] at B74 k7
  obtain ⟨K5, R5, k5, k8⟩ := R4.alloc (.cells #[.int .u8 u0, .int .i64 u1, .int .i64 u2] 29)
  have B75 := B74.alloc (.cells #[.int .u8 u0, .int .i64 u1, .int .i64 u2] 29)
  have B8 := Blk.new w3 #[.int .u8 u0, .int .i64 u1, .int .i64 u2] 29
  have HC2 := Lib.hid (push_at R5.r HV.out.2 (v0, v1, v2) HV.out.1)
  unfold vagg at HC2
  dsimp only at HC2
  have HR5 := Lib.hid (And.intro R5 (And.intro k8 B8))
  have s0 := B74.c 0 _ rfl
  have s1 := B74.c 1 _ rfl
  have s2 := B74.c 2 _ rfl
  have fs0 := B74.f 0
  have fs1 := B74.f 1
  have fs2 := B74.f 2
  have ls := B74.l
  clear hR R4 B74 R3 k7 B7 HR3 HC R5 B75 B8 k5 k8
  rw [ht7]
  go_wp2_with fail
  refine HC2.out.mono ?_
  rintro e w4 ⟨rfl, hR⟩
  obtain ⟨R5, k8, B8⟩ := HR5.out
  have R6 := R5.call hR
  have B86 := B8.keep hR.2 k8
  have HC3 := Lib.hid (push_at R6.r HV.out.2 (u0, u1, u2) HU.out)
  unfold vagg at HC3
  dsimp only at HC3
  generalize w3.heap.size = t8 at *
  have q0 := B86.c 0 _ rfl
  have q1 := B86.c 1 _ rfl
  have q2 := B86.c 2 _ rfl
  have fq0 := B86.f 0
  have fq1 := B86.f 1
  have fq2 := B86.f 2
  have lq := B86.l
  have HR6 := Lib.hid R6
  clear hR R6 B86 R5 k8 B8 HR5 HC2
  go_wp2_with fail
  refine HC3.out.mono ?_
  rintro e w5 ⟨rfl, hR⟩
  have HB := Lib.hid (HR6.out.call hR).done
  clear hR HR6
  go_wp2_with fail
  go_end0
  exact ⟨rfl, HB.out⟩
theorem juggle_o (h : RunAt w0 W X rb fgs c s K) (hf : Topf fgs fg) (op : Int) (h7 : op ≠ 7) (h8 : op ≠ 8) : Calls Try.prog 34 #[.pointer (some ⟨rb, 0, none⟩), .pointer (some ⟨fg, 0, none⟩), .int .u8 op] W fun e W' => e = .returned (.tuple #[]) ∧ RunK w0 W X rb fgs c (s.juggle op) K W' := by
  have HP := Lib.hid (pop_at h hf 0 (by omega))
  have e : s.juggle op = (s.pop 0).2 := by unfold Mc.juggle; rw [if_neg h7, if_neg h8]
  have q7 : (op == 7) = false := by rw [beq_eq_false_iff_ne]; exact h7
  have q8 : (op == 8) = false := by rw [beq_eq_false_iff_ne]; exact h8
  rw [e]
  generalize s.pop 0 = p at *
  obtain ⟨⟨v0, v1, v2⟩, s1⟩ := p
  have HR := Lib.hid h.rk0
  unfold vagg at *
  dsimp only at *
  clear h e hf h7 h8
  go_enter Try.func34, Try.ntmps34
  go_wp2_with fail
  refine HP.out.mono ?_
  rintro e w2 ⟨rfl, hR⟩
  have R2 := HR.out.call hR
  obtain ⟨K3, R3, k3, k7⟩ := R2.alloc (.cells #[.int .u8 v0, .int .i64 v1, .int .i64 v2] 29)
  have HB := Lib.hid R3.done
  clear hR HR R2 R3 k3 k7
  go_wp2_with fail
  go_end0
  exact ⟨rfl, HB.out⟩
end
#print axioms juggle_7
#print axioms juggle_8
#print axioms juggle_o
end Go.Proofs.Ytkhgpeejmbfmjaa
/- The run in memory: array. -/
namespace Go.Proofs.Ytkhgpeejmbfmjaa
open Go.RowKit
set_option linter.unusedSimpArgs false
set_option linter.unusedVariables false
set_option maxRecDepth 100000
section
variable {w0 W : World} {X : Sx} {rb : Nat} {fgs : List Nat} {c : Nat} {s : Mc} {K : Nat → Prop} {fg : Nat}

theorem mkArrs_words {room : Nat} {hp : List (List Int)} (h : ∀ r ∈ hp, ∀ z ∈ r, I64 z) (n : Int) : ∀ r ∈ Hp.mkArrs room hp n, ∀ z ∈ r, I64 z := by
  intro r hr z hz
  unfold Hp.mkArrs at hr
  split at hr
  · rcases List.mem_append.1 hr with hr | hr
    · exact h r hr z hz
    · have hr := List.mem_singleton.1 hr
      subst hr
      have := List.eq_of_mem_replicate hz
      subst this
      unfold I64; omega
  · exact h r hr z hz
theorem mkArrs_len (room : Nat) (hp : List (List Int)) (n : Int) : (Hp.mkArrs room hp n).length ≤ hp.length + 1 := by
  unfold Hp.mkArrs
  split <;> simp
theorem mkRef_range (room : Nat) (hp : List (List Int)) (n : Int) : 0 ≤ Hp.mkRef room hp n ∧ Hp.mkRef room hp n ≤ hp.length + 1 := by
  unfold Hp.mkRef
  split <;> omega
theorem array_at (h : RunAt w0 W X rb fgs c s K) (hf : Topf fgs fg) (n : Int) (hc : c < 25000) : Calls Try.prog 43 #[.pointer (some ⟨rb, 0, none⟩), .pointer (some ⟨fg, 0, none⟩), .int .i64 n] W fun e W' => e = .returned (.tuple #[]) ∧ RunK w0 W X rb fgs (c + 1) (s.array X.l n) K W' := by
  obtain ⟨gw, KH, c6, hgl, hH, hstep⟩ := h.heap
  have hok := h.ok
  have HP := Lib.hid (hx_make hH n (by have := hok.hl; omega))
  obtain ⟨hp', ehp⟩ : ∃ x, Hp.mkArrs X.l.heap.toNat s.hp n = x := ⟨_, rfl⟩
  obtain ⟨ref, eref⟩ : ∃ x, Hp.mkRef X.l.heap.toNat s.hp n = x := ⟨_, rfl⟩
  obtain ⟨err, eerr⟩ : ∃ x, Hp.mkErr X.l.heap.toNat s.hp n = x := ⟨_, rfl⟩
  have hl' := mkArrs_len X.l.heap.toNat s.hp n
  have hw' := mkArrs_words hok.hw n (room := X.l.heap.toNat)
  have hr' := mkRef_range X.l.heap.toNat s.hp n
  rw [ehp] at HP hl' hw'
  rw [eref] at HP hr'
  rw [eerr] at HP
  have hhl := hok.hl
  have HST : Hid (∀ W', HXk w0 W X.gh gw X.l.heap.toNat hp' KH W' → RunK w0 W X rb fgs (c + 1) { s with hp := hp' } K W') := Lib.hid (fun W' hx => hstep W' (c + 1) hp' hx.1 hx.2 (by omega) (by omega) (by omega) hw')
  have HV : Hid (VOk (3, ref, 0) ∧ Topf fgs fg) := Lib.hid ⟨by unfold VOk I64; dsimp only; omega, hf⟩
  have HR := Lib.hid h.rk0
  have hrl := h.rbl
  have e : s.array X.l n = if s.e ≠ 0 then { s with hp := hp' } else if err ≠ 0 then { s with hp := hp', e := 4 } else Mc.push { s with hp := hp' } (3, ref, 0) := by
    unfold Mc.array
    rw [ehp, eref, eerr]
  rw [e]
  by_cases he : s.e = 0
  · rw [if_neg (fun x => x he)]
    have HH := Lib.hid he
    by_cases hz : err = 0
    · rw [if_neg (fun x => x hz)]
      subst hz
      clear h hH hstep hok hl' hw' hr' hhl hc ehp eref eerr he e hf
      go_enter Try.func43, Try.ntmps43
      go_wp2_with fail
      refine HP.out.mono ?_
      rintro e w2 ⟨rfl, hx⟩
      have R2 := HR.out.call (HST.out w2 hx)
      have c14 := R2.r.c14
      dsimp only at c14
      rw [HH.out] at c14
      have rl := R2.r.rbl
      have HC := Lib.hid (push_at R2.r HV.out.2 (3, ref, 0) HV.out.1)
      unfold vagg at HC
      dsimp only at HC
      have HR2 := Lib.hid R2
      clear hx R2 HST HR
      go_wp2_with fail
      refine HC.out.mono ?_
      rintro e w3 ⟨rfl, hR⟩
      have HB := Lib.hid (HR2.out.call hR).done
      clear hR HR2
      go_wp2_with fail
      go_end0
      exact ⟨rfl, HB.out⟩
    · rw [if_pos hz]
      have hq : (err != 0) = true := by simpa using hz
      clear h hH hstep hok hl' hw' hr' hhl hc ehp eref eerr he e hf hz
      go_enter Try.func43, Try.ntmps43
      go_wp2_with fail
      refine HP.out.mono ?_
      rintro e w2 ⟨rfl, hx⟩
      have R2 := HR.out.call (HST.out w2 hx)
      have c14 := R2.r.c14
      dsimp only at c14
      rw [HH.out] at c14
      have rl := R2.r.rbl
      have rf := R2.r.rf 14
      have HB := Lib.hid (R2.call (R2.r.setE 4 (by unfold I64; omega))).done
      clear hx R2 HST HR
      go_wp2_with fail
      go_end0
      exact ⟨rfl, HB.out⟩
  · rw [if_pos he]
    have hq : (s.e != 0) = true := by simpa using he
    clear h hH hstep hok hl' hw' hr' hhl hc ehp eref eerr he e hf
    go_enter Try.func43, Try.ntmps43
    go_wp2_with fail
    refine HP.out.mono ?_
    rintro e w2 ⟨rfl, hx⟩
    have R2 := HR.out.call (HST.out w2 hx)
    have c14 := R2.r.c14
    dsimp only at c14
    have rl := R2.r.rbl
    have HB := Lib.hid R2.done
    clear hx R2 HST HR
    go_wp2_with fail
    go_end0
    exact ⟨rfl, HB.out⟩
end
#print axioms mkArrs_len
#print axioms mkRef_range
#print axioms array_at
end Go.Proofs.Ytkhgpeejmbfmjaa
