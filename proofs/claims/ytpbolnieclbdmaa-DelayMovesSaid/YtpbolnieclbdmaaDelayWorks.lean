/-
  isochronlaw12.works: the examples of the chapter hold.
-/
import Derived.Test.YtpbolnieclbdmaaDelayMeet
namespace Go.Proofs.Ytpbolnieclbdmaa
open Go.RowKit Go.Lib Plain

set_option maxHeartbeats 4000000 in
set_option maxRecDepth 100000 in
theorem works_any (w : World) : Calls Try.prog 11 #[] w fun e w' => e = .returned (.bool true) ∧ Below w.heap.size w w' := by
  go_enter Try.func11, Try.ntmps11
  go_wp2_with fail
  refine (delay_any 100 7 27 131 _).mono ?_
  rw [show delV 100 7 27 131 = 5 by decide +kernel, show xV 100 7 27 131 = 0 by decide +kernel]
  rintro e w1 ⟨rfl, hb1⟩
  have H1 := Lib.hid (hb1)
  clear hb1
  go_wp2_with fail
  refine (delay_any 0 0 4 1 _).mono ?_
  rw [show delV 0 0 4 1 = -2 by decide +kernel, show xV 0 0 4 1 = 0 by decide +kernel]
  rintro e w2 ⟨rfl, hb2⟩
  have H2 := Lib.hid (below_step (H1.out) hb2)
  clear hb2 H1
  go_wp2_with fail
  refine (ratio_any 0 0 0 0 1000000 0 1000050 1000000 _).mono ?_
  unfold RtPost
  rw [show rtV (OkX 0 0 0 0 ∧ OkX 1000000 0 1000050 1000000) (1000000 - 0) (1000050 - 0) = 50000 by decide +kernel, show rtE (OkX 0 0 0 0 ∧ OkX 1000000 0 1000050 1000000) (1000000 - 0) (1000050 - 0) = 0 by decide +kernel]
  rintro e w3 ⟨rfl, hb3⟩
  have H3 := Lib.hid (below_step (H2.out) hb3)
  clear hb3 H2
  go_wp2_with fail
  refine (meet_any 0 0 50 0 10 3 4 _).mono ?_
  rw [show mt1 0 0 50 0 10 3 4 = 10 by decide +kernel, show mt2 0 0 50 0 10 3 4 = 63 by decide +kernel, show mt3 0 0 50 0 10 3 4 = 67 by decide +kernel, show mt4 0 0 50 0 10 3 4 = 20 by decide +kernel, show mtE 0 0 50 0 10 3 4 = 0 by decide +kernel]
  rintro e w4 ⟨rfl, hb4⟩
  have H4 := Lib.hid (below_step (H3.out) hb4)
  clear hb4 H3
  go_wp2_with fail
  refine (delayBound_any 100000 5000 1000 _).mono ?_
  rw [show dblV 100000 5000 1000 = 2 by decide +kernel, show dblE 100000 5000 1000 = 0 by decide +kernel]
  rintro e w5 ⟨rfl, hb5⟩
  have g0 : w5.cell? ⟨w4.heap.size, 0, none⟩ = some (.int .i64 10) := below_keep hb5 (by simp [go_sem])
  have g1 : w5.cell? ⟨w4.heap.size, 1, none⟩ = some (.int .i64 63) := below_keep hb5 (by simp [go_sem])
  have g2 : w5.cell? ⟨w4.heap.size, 2, none⟩ = some (.int .i64 67) := below_keep hb5 (by simp [go_sem])
  have g3 : w5.cell? ⟨w4.heap.size, 3, none⟩ = some (.int .i64 20) := below_keep hb5 (by simp [go_sem])
  have H5 := Lib.hid (below_step (below_alloc H4.out _) hb5)
  clear hb5 H4
  go_wp2_with fail
  refine (ratioBound_any 1000000 _).mono ?_
  rw [show rblV 1000000 = 2083 by decide +kernel, show rblE 1000000 = 0 by decide +kernel]
  rintro e w6 ⟨rfl, hb6⟩
  have h0 := below_keep hb6 g0
  have h1 := below_keep hb6 g1
  have h2 := below_keep hb6 g2
  have h3 := below_keep hb6 g3
  have H6 := Lib.hid (below_step (H5.out) hb6)
  clear hb6 g0 g1 g2 g3 H5
  go_wp2_with fail
  refine (ratioBound_any 0 _).mono ?_
  rw [show rblV 0 = 0 by decide +kernel, show rblE 0 = 2 by decide +kernel]
  rintro e w7 ⟨rfl, hb7⟩
  have g0 := below_keep hb7 h0
  have g1 := below_keep hb7 h1
  have g2 := below_keep hb7 h2
  have g3 := below_keep hb7 h3
  have H7 := Lib.hid (below_step (H6.out) hb7)
  clear hb7 h0 h1 h2 h3 H6
  go_wp2_with fail
  refine (ratio_any 0 0 0 0 0 0 0 0 _).mono ?_
  unfold RtPost
  rw [show rtV (OkX 0 0 0 0 ∧ OkX 0 0 0 0) (0 - 0) (0 - 0) = 0 by decide +kernel, show rtE (OkX 0 0 0 0 ∧ OkX 0 0 0 0) (0 - 0) (0 - 0) = 2 by decide +kernel]
  rintro e w8 ⟨rfl, hb8⟩
  have h0 := below_keep hb8 g0
  have h1 := below_keep hb8 g1
  have h2 := below_keep hb8 g2
  have h3 := below_keep hb8 g3
  have H8 := Lib.hid (below_step (H7.out) hb8)
  clear hb8 g0 g1 g2 g3 H7
  go_wp2_with fail
  refine (xCheck_any 1 0 0 0 _).mono ?_
  rw [show xV 1 0 0 0 = 220 by decide +kernel]
  rintro e w9 ⟨rfl, hb9⟩
  have H9 := Lib.hid (below_step (H8.out) hb9)
  clear hb9 H8
  go_wp2
  go_ret
  exact ⟨rfl, H9.out⟩

end Go.Proofs.Ytpbolnieclbdmaa
