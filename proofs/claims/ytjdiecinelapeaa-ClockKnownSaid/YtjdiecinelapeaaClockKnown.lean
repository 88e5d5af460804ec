/-
  ClockKnown: for every input the law returns true, and its arguments read as before. No conditions.
-/
import Derived.Test.YtjdiecinelapeaaClockWorks
import Derived.Test.YtjdiecinelapeaaOpen09
import Derived.Lib.QuietBelow
import Derived.BigQuiet
namespace Go.Proofs.Ytjdiecinelapeaa
open Go.RowKit Go.Lib Plain
open Go.ChangeShapes Go.WideShapes Go.ChangeAt

theorem true_4 : TrueIs (-1099511627776) (-200000) (-4611686018427387904) 0 0 :=
  .inl ⟨by decide +kernel, by decide +kernel, ⟨by decide, by decide, by decide +kernel, fun l h1 h2 => by omega⟩, rfl⟩
theorem true_5 : TrueIs (-1099511627776) (-200000) 1 0 4 := .inr (.inl ⟨by decide +kernel, by decide +kernel, rfl, rfl⟩)
theorem true_6 : TrueIs 0 200001 1152921504606846976 0 190 := .inr (.inr ⟨by decide +kernel, rfl, rfl⟩)

set_option maxHeartbeats 4000000 in
set_option maxRecDepth 100000 in
theorem clockKnown_walk (w : World) : Calls Try.prog 9 #[] w fun y w' => y = .returned (.bool true) ∧ Below w.heap.size w w' := by
  go_enter Try.func9, Try.ntmps9
  go_wp2_with fail
  refine (works_any _).mono ?_
  rintro e w1 ⟨rfl, hb1⟩
  have H1 := Lib.hid hb1
  clear hb1
  go_wp2_with fail
  refine (local_any 1099511627776 200000 1099511627776 _).mono ?_
  rw [show localV 1099511627776 200000 1099511627776 = 2199243157877 by decide +kernel, show localE 1099511627776 200000 1099511627776 = 0 by decide +kernel]
  rintro e w2 ⟨rfl, hb2⟩
  have a0 : w2.cell? ⟨w1.heap.size, 0, none⟩ = some (.int .i64 1099511627776) := below_keep hb2 (by simp [go_sem])
  have a1 : w2.cell? ⟨w1.heap.size, 1, none⟩ = some (.int .i64 200000) := below_keep hb2 (by simp [go_sem])
  have a2 : w2.cell? ⟨w1.heap.size + 1, 0, none⟩ = some (.int .i64 (-1099511627776)) := below_keep hb2 (by simp [go_sem])
  have a3 : w2.cell? ⟨w1.heap.size + 1, 1, none⟩ = some (.int .i64 (-200000)) := below_keep hb2 (by simp [go_sem])
  have H2 := Lib.hid (below_step (below_alloc (below_alloc H1.out _) _) hb2)
  clear hb2 H1
  go_wp2_with fail
  refine (local_any (-1099511627776) (-200000) 1099511627776 _).mono ?_
  rw [show localV (-1099511627776) (-200000) 1099511627776 = -219902326 by decide +kernel, show localE (-1099511627776) (-200000) 1099511627776 = 0 by decide +kernel]
  rintro e w3 ⟨rfl, hb⟩
  have b0 := below_keep hb a0
  have b1 := below_keep hb a1
  have b2 := below_keep hb a2
  have b3 := below_keep hb a3
  have H3 := Lib.hid (below_step H2.out hb)
  clear hb H2 a0 a1 a2 a3
  go_wp2_with fail
  refine (true_any (-1099511627776) (-200000) (-4611686018427387904) _).mono ?_
  rintro e w4 ⟨r, k, rfl, hw, hb⟩
  obtain ⟨rfl, rfl⟩ := true_4.unique hw
  clear hw
  have c0 := below_keep hb b0
  have c1 := below_keep hb b1
  have c2 := below_keep hb b2
  have c3 := below_keep hb b3
  have H4 := Lib.hid (below_step H3.out hb)
  clear hb H3 b0 b1 b2 b3
  go_wp2_with fail
  refine (true_any (-1099511627776) (-200000) 1 _).mono ?_
  rintro e w5 ⟨r, k, rfl, hw, hb⟩
  obtain ⟨rfl, rfl⟩ := true_5.unique hw
  clear hw
  have d0 := below_keep hb c0
  have d1 := below_keep hb c1
  have d2 := below_keep hb c2
  have d3 := below_keep hb c3
  have H5 := Lib.hid (below_step H4.out hb)
  clear hb H4 c0 c1 c2 c3
  go_wp2_with fail
  refine (true_any 0 200001 1152921504606846976 _).mono ?_
  rintro e w6 ⟨r, k, rfl, hw, hb⟩
  obtain ⟨rfl, rfl⟩ := true_6.unique hw
  clear hw
  have e0 := below_keep hb d0
  have e1 := below_keep hb d1
  have e2 := below_keep hb d2
  have e3 := below_keep hb d3
  have H6 := Lib.hid (below_step H5.out hb)
  clear hb H5 d0 d1 d2 d3
  go_wp2_with fail
  refine (local_any 1099511627777 0 (-1) _).mono ?_
  rw [show localV 1099511627777 0 (-1) = 0 by decide +kernel, show localE 1099511627777 0 (-1) = 190 by decide +kernel]
  rintro e w7 ⟨rfl, hb⟩
  have f0 := below_keep hb e0
  have f1 := below_keep hb e1
  have f2 := below_keep hb e2
  have f3 := below_keep hb e3
  have H7 := Lib.hid (below_step H6.out hb)
  clear hb H6 e0 e1 e2 e3
  go_wp2_with fail
  refine (elapsed_any 0 0 1 1099511627776 _).mono ?_
  rw [show elV 0 0 1 1099511627776 = 0 by decide +kernel, show elE 0 0 1 1099511627776 = 2 by decide +kernel]
  rintro e w8 ⟨rfl, hb⟩
  have g0 := below_keep hb f0
  have g1 := below_keep hb f1
  have g2 := below_keep hb f2
  have g3 := below_keep hb f3
  have H8 := Lib.hid (below_step H7.out hb)
  clear hb H7 f0 f1 f2 f3
  go_wp2_with fail
  refine (elapsed_any 0 0 4611686018427387904 4611686018427387904 _).mono ?_
  rw [show elV 0 0 4611686018427387904 4611686018427387904 = 0 by decide +kernel, show elE 0 0 4611686018427387904 4611686018427387904 = 2 by decide +kernel]
  rintro e w9 ⟨rfl, hb⟩
  have h0 := below_keep hb g0
  have h1 := below_keep hb g1
  have h2 := below_keep hb g2
  have h3 := below_keep hb g3
  have H9 := Lib.hid (below_step H8.out hb)
  clear hb H8 g0 g1 g2 g3
  go_wp2_with fail
  refine (offset_any 0 0 0 (-200001) (-1) _).mono ?_
  rw [show offV 0 0 0 (-200001) (-1) = 0 by decide +kernel, show offE 0 0 0 (-200001) (-1) = 190 by decide +kernel]
  rintro e w10 ⟨rfl, hb⟩
  have i0 := below_keep hb h0
  have i1 := below_keep hb h1
  have i2 := below_keep hb h2
  have i3 := below_keep hb h3
  have H10 := Lib.hid (below_step H9.out hb)
  clear hb H9 h0 h1 h2 h3
  go_wp2_with fail
  refine (cbound_any 200001 0 _).mono ?_
  rw [show bndV 200001 0 = 0 by decide +kernel, show bndE 200001 0 = 2 by decide +kernel]
  rintro e w11 ⟨rfl, hb⟩
  have j0 := below_keep hb i0
  have j1 := below_keep hb i1
  have j2 := below_keep hb i2
  have j3 := below_keep hb i3
  have H11 := Lib.hid (below_step H10.out hb)
  clear hb H10 i0 i1 i2 i3
  go_wp2_with fail
  refine (cbound_any 0 (-1) _).mono ?_
  rw [show bndV 0 (-1) = 0 by decide +kernel, show bndE 0 (-1) = 2 by decide +kernel]
  rintro e w12 ⟨rfl, hb⟩
  have k0 := below_keep hb j0
  have k1 := below_keep hb j1
  have k2 := below_keep hb j2
  have k3 := below_keep hb j3
  have H12 := Lib.hid (below_step H11.out hb)
  clear hb H11 j0 j1 j2 j3
  go_wp2_with fail
  refine (cbound_any 200000 1099511627776 _).mono ?_
  rw [show bndV 200000 1099511627776 = 219902326 by decide +kernel, show bndE 200000 1099511627776 = 0 by decide +kernel]
  rintro e w13 ⟨rfl, hb⟩
  have l0 := below_keep hb k0
  have l1 := below_keep hb k1
  have l2 := below_keep hb k2
  have l3 := below_keep hb k3
  have H13 := Lib.hid (below_step H12.out hb)
  clear hb H12 k0 k1 k2 k3
  go_wp2_with fail
  refine (clkCheck_any 1099511627776 200000 _).mono ?_
  rw [show clkV 1099511627776 200000 = 0 by decide +kernel]
  rintro e w14 ⟨rfl, hb⟩
  have m0 := below_keep hb l0
  have m1 := below_keep hb l1
  have m2 := below_keep hb l2
  have m3 := below_keep hb l3
  have H14 := Lib.hid (below_step H13.out hb)
  clear hb H13 l0 l1 l2 l3
  go_wp2_with fail
  refine (clkCheck_any (-1099511627776) (-200000) _).mono ?_
  rw [show clkV (-1099511627776) (-200000) = 0 by decide +kernel]
  rintro e w15 ⟨rfl, hb⟩
  have n0 := below_keep hb m0
  have n1 := below_keep hb m1
  have n2 := below_keep hb m2
  have n3 := below_keep hb m3
  have H15 := Lib.hid (below_step H14.out hb)
  clear hb H14 m0 m1 m2 m3
  go_wp2
  go_ret
  exact ⟨rfl, H15.out⟩

set_option maxRecDepth 100000 in
theorem clockKnown_lifted (os : Os) (started : os.Started) (H : Type) (enc : TypeId × Value → H) :
    ReturnsInHanded {} Try.checked os 9 .any (Rows.clockKnownSpec.pre6 enc Try.prog Try.f9 [] false) (Rows.clockKnownSpec.post enc Try.prog Try.f9 false true false false) := by
  refine law_lifted started Try.func9 (by kernel_rfl)
    (ChangeSpec.witness6 (enc := enc) (C := Try.checked) false ⟨#[], #[], []⟩ 8 (by kernel_rfl) (by kernel_rfl) (by kernel_rfl) (by kernel_rfl))
    rfl (by kernel_rfl) (by kernel_rfl) (fun ds hd => ?_) ?_
  · rw [Try.params9] at hd
    match ds, hd with
    | [], _ => exact ⟨rfl, rfl, rfl⟩
  · intro W base args ds p hval hA
    rw [Try.params9] at hA hval
    obtain ⟨hz, rfl, rfl⟩ := trodAll_nil hA
    obtain rfl : args = #[] := by
      cases args; simp_all
    exact clockKnown_walk  W

theorem clockKnown_holds : Rows.ClockKnownSaid :=
  OpenClaim.holds_of_wide 9 Try.f9 rfl rfl rfl rfl rfl rfl rfl ⟨rfl, rfl, rfl, rfl, rfl⟩ rfl rfl rfl rfl rfl (by kernel_rfl) Try.func9 (by kernel_rfl)
    (of_decide_eq_true (by kernel_rfl)) (by unfold Func.isWrapper; first | (rw [if_pos (by decide +kernel)]; kernel_rfl) | (rw [if_neg (by decide +kernel)]; exact ⟨rfl, rfl⟩))
    (fun os started H enc _ => clockKnown_lifted os started H enc)
#print axioms clockKnown_holds

end Go.Proofs.Ytjdiecinelapeaa
