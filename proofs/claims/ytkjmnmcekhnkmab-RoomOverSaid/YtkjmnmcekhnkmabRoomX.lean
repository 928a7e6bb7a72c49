/- RoomOver's walk for every input. -/
import Derived.Test.YtkjmnmcekhnkmabRoomW
namespace Go.Proofs.Ytkjmnmcekhnkmab
open Go.RowKit

theorem roomOver_walk (n every : Int) (A : Option Addr) (m cap : Nat) (w : World) (hp : PicksAt w A m) :
    Calls Try.prog 6 #[.int .i64 n, .int .i64 every, .slice A m cap] w fun e w' => e = .returned (.bool true) ∧ Below w.heap.size w w' := by
  by_cases h : n < 1 ∨ 6 < n ∨ every < 1 ∨ 3 < every ∨ 400 < m
  · exact over_out n every A m cap w h
  · obtain ⟨k, rfl⟩ := Int.eq_ofNat_of_zero_le (show 0 ≤ n by omega)
    exact over_in k every A m cap w (by omega) (by omega) (by omega) (by omega) (by omega) hp

#print axioms roomOver_walk
end Go.Proofs.Ytkjmnmcekhnkmab
