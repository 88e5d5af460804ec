/-
  (face).at: the local time of a clock.
-/
import Derived.Test.YtkencmijghigiaaMBase
import Derived.Test.YtkencmijghigiaaMClk
namespace Go.Proofs.Ytkencmijghigiaa
open Go.RowKit Go.Lib Plain

theorem face_any (O P t : Int) (w : World) :
    Calls Try.prog 30 #[.agg #[.int .i64 O, .int .i64 P], .int .i64 t] w fun e w' => e = .returned (.tuple #[.int .i64 (localV O P t), .int .i64 (localE O P t)]) ∧ Below w.heap.size w w' := by
  go_enter Try.func30, Try.ntmps30
  go_wp2_with fail
  refine (local_any O P t _).mono ?_
  rintro y w1 ⟨rfl, hb1⟩
  go_wp2
  go_ret2
  exact ⟨rfl, below_step (below_alloc (Below.refl _ _) _) hb1⟩

end Go.Proofs.Ytkencmijghigiaa
