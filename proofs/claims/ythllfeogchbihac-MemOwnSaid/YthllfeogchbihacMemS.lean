/- MemOwn: the law's walk. -/
import Derived.Test.YthllfeogchbihacMemR
import Derived.Test.YthllfeogchbihacMemN
import Derived.Deep.QuietTactic
namespace Go.Proofs.Ythllfeogchbihac
open Go.RowKit
set_option linter.unusedSimpArgs false
set_option linter.unusedVariables false
set_option maxRecDepth 100000 in
theorem own_out (p q : Int) (A : Option Addr) (m cap : Nat) (w : World) (h : p < 1 ∨ 5 < p ∨ q < 1 ∨ 3 < q ∨ 60 < m) :
    Calls Try.prog 6 #[.int .i64 p, .int .i64 q, .slice A m cap] w fun e w' => e = .returned (.bool true) ∧ Below w.heap.size w w' := by
  have HA := Lib.hid (awake_ok w)
  have h5 : 60 < m → (60 : Int) < (m : Int) := by omega
  by_cases h1 : p < 1
  · clear h h5
    go_enter Try.func6, Try.ntmps6
    go_wp2_with fail
    refine HA.out.mono ?_
    rintro e w1 ⟨rfl, hb⟩
    go_wp2_with fail
    go_ret
    exact ⟨rfl, hb⟩
  by_cases h2 : 5 < p
  · clear h h5
    go_enter Try.func6, Try.ntmps6
    go_wp2_with fail
    refine HA.out.mono ?_
    rintro e w1 ⟨rfl, hb⟩
    go_wp2_with fail
    go_ret
    exact ⟨rfl, hb⟩
  by_cases h3 : q < 1
  · clear h h5
    go_enter Try.func6, Try.ntmps6
    go_wp2_with fail
    refine HA.out.mono ?_
    rintro e w1 ⟨rfl, hb⟩
    go_wp2_with fail
    go_ret
    exact ⟨rfl, hb⟩
  by_cases h4 : 3 < q
  · clear h h5
    go_enter Try.func6, Try.ntmps6
    go_wp2_with fail
    refine HA.out.mono ?_
    rintro e w1 ⟨rfl, hb⟩
    go_wp2_with fail
    go_ret
    exact ⟨rfl, hb⟩
  have h6 : (60 : Int) < (m : Int) := h5 (by omega)
  clear h h5
  go_enter Try.func6, Try.ntmps6
  go_wp2_with fail
  refine HA.out.mono ?_
  rintro e w1 ⟨rfl, hb⟩
  go_wp2_with fail
  go_ret
  exact ⟨rfl, hb⟩
end Go.Proofs.Ythllfeogchbihac
