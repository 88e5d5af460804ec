/-
  isochronlaw09.works: the examples of the chapter hold.
-/
import Derived.Test.YtjdiecinelapeaaClockTrue
import Derived.Test.YtjdiecinelapeaaClockSpan
namespace Go.Proofs.Ytjdiecinelapeaa
open Go.RowKit Go.Lib Plain

theorem cleast_at {O P m r : Int} (h : OkC O P) (h0 : 0 < r) (h1 : r ≤ 1099511627776) (h2 : m ≤ locV O P r) (h3 : locV O P (r - 1) < m) : IsLeast (locV O P) 0 1099511627776 m r := by
  refine ⟨by omega, h1, h2, fun l l0 l1 => ?_⟩
  have := loc_mono (O := O) (P := P) (x := l) (y := r - 1) h.2.2.1 (by omega)
  omega
theorem true_1 : TrueIs 0 (-100000) 9999 10000 0 := .inl ⟨by decide +kernel, by decide +kernel, cleast_at (by decide +kernel) (by decide) (by decide) (by decide +kernel) (by decide +kernel), rfl⟩
theorem true_2 : TrueIs 50 0 20 0 0 := .inl ⟨by decide +kernel, by decide +kernel, ⟨by decide, by decide, by decide +kernel, fun l h1 h2 => by omega⟩, rfl⟩
theorem true_3 : TrueIs 0 0 1099511627777 0 4 := .inr (.inl ⟨by decide +kernel, by decide +kernel, rfl, rfl⟩)

set_option maxHeartbeats 4000000 in
set_option maxRecDepth 100000 in
theorem works_any (w : World) : Calls Try.prog 10 #[] w fun e w' => e = .returned (.bool true) ∧ Below w.heap.size w w' := by
  go_enter Try.func10, Try.ntmps10
  go_wp2_with fail
  refine (local_any 5 100000 10000 _).mono ?_
  rw [show localV 5 100000 10000 = 10006 by decide +kernel, show localE 5 100000 10000 = 0 by decide +kernel]
  rintro e w1 ⟨rfl, hb1⟩
  have H1 := Lib.hid hb1
  clear hb1
  go_wp2_with fail
  refine (local_any 0 (-100000) 9999 _).mono ?_
  rw [show localV 0 (-100000) 9999 = 9998 by decide +kernel, show localE 0 (-100000) 9999 = 0 by decide +kernel]
  rintro e w2 ⟨rfl, hb2⟩
  have H2 := Lib.hid (below_step H1.out hb2)
  clear hb2 H1
  go_wp2_with fail
  refine (true_any 0 (-100000) 9999 _).mono ?_
  rintro e w3 ⟨r, k, rfl, hw, hb3⟩
  obtain ⟨rfl, rfl⟩ := true_1.unique hw
  have H3 := Lib.hid (below_step H2.out hb3)
  clear hb3 H2 hw
  go_wp2_with fail
  refine (true_any 50 0 20 _).mono ?_
  rintro e w4 ⟨r, k, rfl, hw, hb4⟩
  obtain ⟨rfl, rfl⟩ := true_2.unique hw
  have H4 := Lib.hid (below_step H3.out hb4)
  clear hb4 H3 hw
  go_wp2_with fail
  refine (elapsed_any 7 200000 0 5000 _).mono ?_
  rw [show elV 7 200000 0 5000 = 5001 by decide +kernel, show elE 7 200000 0 5000 = 0 by decide +kernel]
  rintro e w5 ⟨rfl, hb5⟩
  have H5 := Lib.hid (below_step H4.out hb5)
  clear hb5 H4
  go_wp2_with fail
  refine (offset_any 5 0 2 0 9 _).mono ?_
  rw [show offV 5 0 2 0 9 = 3 by decide +kernel, show offE 5 0 2 0 9 = 0 by decide +kernel]
  rintro e w6 ⟨rfl, hb6⟩
  have H6 := Lib.hid (below_step H5.out hb6)
  clear hb6 H5
  go_wp2_with fail
  refine (cbound_any 200000 1 _).mono ?_
  rw [show bndV 200000 1 = 1 by decide +kernel, show bndE 200000 1 = 0 by decide +kernel]
  rintro e w7 ⟨rfl, hb7⟩
  have H7 := Lib.hid (below_step H6.out hb7)
  clear hb7 H6
  go_wp2_with fail
  refine (cbound_any 100000 10000 _).mono ?_
  rw [show bndV 100000 10000 = 1 by decide +kernel, show bndE 100000 10000 = 0 by decide +kernel]
  rintro e w8 ⟨rfl, hb8⟩
  have H8 := Lib.hid (below_step H7.out hb8)
  clear hb8 H7
  go_wp2_with fail
  refine (local_any 0 0 (-1) _).mono ?_
  rw [show localV 0 0 (-1) = 0 by decide +kernel, show localE 0 0 (-1) = 2 by decide +kernel]
  rintro e w9 ⟨rfl, hb9⟩
  have H9 := Lib.hid (below_step H8.out hb9)
  clear hb9 H8
  go_wp2_with fail
  refine (true_any 0 0 1099511627777 _).mono ?_
  rintro e w10 ⟨r, k, rfl, hw, hb10⟩
  obtain ⟨rfl, rfl⟩ := true_3.unique hw
  have H10 := Lib.hid (below_step H9.out hb10)
  clear hb10 H9 hw
  go_wp2_with fail
  refine (clkCheck_any 0 200001 _).mono ?_
  rw [show clkV 0 200001 = 190 by decide +kernel]
  rintro e w11 ⟨rfl, hb11⟩
  have H11 := Lib.hid (below_step H10.out hb11)
  clear hb11 H10
  go_wp2
  go_ret
  exact ⟨rfl, H11.out⟩

end Go.Proofs.Ytjdiecinelapeaa
