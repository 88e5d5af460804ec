/-
  The reference's Bytes of a message of a known kind. No conditions.
-/
import Derived.Test.YtecengclcaodeaaEncE
import Derived.Test.YtecengclcaodeaaRefP
namespace Go.Proofs.Ytecengclcaodeaa
open Go.RowKit Go.Lib Plain

theorem owns_two (w : World) (a b : Int) : (w.alloc (.cells #[.int .u8 a, .int .u8 b] 5)).ownsRow w.heap.size 5 1 (.slice (some ⟨w.heap.size, 0, none⟩) 2 2) [a, b].length (bys [a, b]) :=
  ⟨rfl, Or.inr ⟨w.heap.size, 2, #[.int .u8 a, .int .u8 b], rfl, Nat.le_refl _, heap_alloc_new w _, Nat.le_refl 2, (by decide : 2 ≤ maxLen), rfl, rfl⟩⟩

set_option maxHeartbeats 8000000 in
set_option maxRecDepth 100000 in
theorem rBytes_0 (D C i p S T P r q a b c v e g s : Int) (w : World) :
    Calls Try.prog 21 #[.agg #[.int .i64 0, .int .i64 D, .int .i64 C, .int .i64 i, .int .i64 p, .int .i64 S, .int .i64 T, .int .i64 P, .int .i64 r, .int .i64 q, .int .i64 a, .int .i64 b, .int .i64 c, .int .i64 v, .int .i64 e, .int .i64 g, .int .i64 s]] w fun e1 w' => ∃ u, e1 = .returned u ∧ w'.ownsRow w.heap.size 5 1 u (encM 0 D C i p S T P r q a b c v e g s).length (bys (encM 0 D C i p S T P r q a b c v e g s)) ∧ Below w.heap.size w w' := by
  go_enter Try.func21, Try.ntmps21
  go_wp2_with fail
  obtain ⟨W, hW⟩ : ∃ W, W = (w.alloc (.cells (mMsg 0 D C i p S T P r q a b c v e g s).toArray 27)).alloc (.cells #[.int .u8 0, .int .u8 (D % 256)] 5) := ⟨_, rfl⟩
  have HM0 := Lib.hid (show Holds W w.heap.size (mMsg 0 D C i p S T P r q a b c v e g s) by subst hW; exact (holds_alloc w (mMsg 0 D C i p S T P r q a b c v e g s) 27 rfl).alloc (by simp) _)
  have ho0 : W.ownsRow (w.heap.size + 1) 5 1 (.slice (some ⟨w.heap.size + 1, 0, none⟩) 2 2) [(0 : Int), D % 256].length (bys [(0 : Int), D % 256]) := by
    subst hW
    have := owns_two (w.alloc (.cells (mMsg 0 D C i p S T P r q a b c v e g s).toArray 27)) 0 (D % 256)
    simpa using this
  have HB0 := Lib.hid (show Below w.heap.size w W by subst hW; exact below_alloc (below_alloc (Below.refl _ _) _) _)
  have zW : w.heap.size + 1 < W.heap.size := by subst hW; simp
  obtain ⟨L0, hL0⟩ : ∃ L : List Int, L = [0, D % 256] := ⟨_, rfl⟩
  rw [← hL0] at ho0
  have n0 : L0.length = 2 := by rw [hL0]; rfl
  have HO0 := Lib.hid ho0
  have HL0 := Lib.hid hL0
  clear ho0 hL0
  have hWW : (w.alloc (.cells (mMsg 0 D C i p S T P r q a b c v e g s).toArray 27)).alloc (.cells #[.int .u8 0, .int .u8 (D % 256)] 5) = W := hW.symm
  clear hW
  refine (rsize_0 _).mono ?_
  rintro e1 w9 ⟨rfl, hw9⟩
  have hw9 := hWW.symm.trans hw9
  subst hw9
  clear hWW
  go_wp2_with fail
  refine (put_any _ L0 22 2 (w.heap.size + 1) W HO0.out (by omega) (by decide) (by omega)).mono ?_
  rintro e1 y1 ⟨u1, rfl, ho1, hb1⟩
  obtain ⟨L1, hL1⟩ : ∃ L : List Int, L = L0 ++ beB 22 2 := ⟨_, rfl⟩
  rw [← hL1] at ho1
  have n1 : L1.length = 4 := by rw [hL1, List.length_append, beB_len, n0]
  have HO1 := Lib.hid ho1
  have HL1 := Lib.hid hL1
  have HM1 := Lib.hid (show Holds y1 w.heap.size (mMsg 0 D C i p S T P r q a b c v e g s) from fun j v hv => (hb1.cell (by show w.heap.size < _; omega)).trans (HM0.out j v hv))
  have HB1 := Lib.hid (HB0.out.trans (hb1.mono (by omega)))
  have z1 : w.heap.size + 1 < y1.heap.size := by have := hb1.size; omega
  clear ho1 hL1 hb1 HM0 HB0 HO0
  have c1 : y1.cell? ⟨w.heap.size, 2, none⟩ = some (.int .i64 C) := HM1.out 2 _ rfl
  go_wp2_with fail
  refine (put_any _ L1 C 8 (w.heap.size + 1) y1 HO1.out (by omega) (by decide) (by omega)).mono ?_
  rintro e1 y2 ⟨u2, rfl, ho2, hb2⟩
  obtain ⟨L2, hL2⟩ : ∃ L : List Int, L = L1 ++ beB C 8 := ⟨_, rfl⟩
  rw [← hL2] at ho2
  have n2 : L2.length = 12 := by rw [hL2, List.length_append, beB_len, n1]
  have HO2 := Lib.hid ho2
  have HL2 := Lib.hid hL2
  have HM2 := Lib.hid (show Holds y2 w.heap.size (mMsg 0 D C i p S T P r q a b c v e g s) from fun j v hv => (hb2.cell (by show w.heap.size < _; omega)).trans (HM1.out j v hv))
  have HB2 := Lib.hid (HB1.out.trans (hb2.mono (by omega)))
  have z2 : w.heap.size + 1 < y2.heap.size := by have := hb2.size; omega
  clear ho2 hL2 hb2 HM1 HB1 HO1 c1
  have c2 : y2.cell? ⟨w.heap.size, 3, none⟩ = some (.int .i64 i) := HM2.out 3 _ rfl
  go_wp2_with fail
  refine (put_any _ L2 i 6 (w.heap.size + 1) y2 HO2.out (by omega) (by decide) (by omega)).mono ?_
  rintro e1 y3 ⟨u3, rfl, ho3, hb3⟩
  obtain ⟨L3, hL3⟩ : ∃ L : List Int, L = L2 ++ beB i 6 := ⟨_, rfl⟩
  rw [← hL3] at ho3
  have n3 : L3.length = 18 := by rw [hL3, List.length_append, beB_len, n2]
  have HO3 := Lib.hid ho3
  have HL3 := Lib.hid hL3
  have HM3 := Lib.hid (show Holds y3 w.heap.size (mMsg 0 D C i p S T P r q a b c v e g s) from fun j v hv => (hb3.cell (by show w.heap.size < _; omega)).trans (HM2.out j v hv))
  have HB3 := Lib.hid (HB2.out.trans (hb3.mono (by omega)))
  have z3 : w.heap.size + 1 < y3.heap.size := by have := hb3.size; omega
  clear ho3 hL3 hb3 HM2 HB2 HO2 c2
  have c3 : y3.cell? ⟨w.heap.size, 4, none⟩ = some (.int .i64 p) := HM3.out 4 _ rfl
  go_wp2_with fail
  refine (put_any _ L3 p 2 (w.heap.size + 1) y3 HO3.out (by omega) (by decide) (by omega)).mono ?_
  rintro e1 y4 ⟨u4, rfl, ho4, hb4⟩
  obtain ⟨L4, hL4⟩ : ∃ L : List Int, L = L3 ++ beB p 2 := ⟨_, rfl⟩
  rw [← hL4] at ho4
  have n4 : L4.length = 20 := by rw [hL4, List.length_append, beB_len, n3]
  have HO4 := Lib.hid ho4
  have HL4 := Lib.hid hL4
  have HM4 := Lib.hid (show Holds y4 w.heap.size (mMsg 0 D C i p S T P r q a b c v e g s) from fun j v hv => (hb4.cell (by show w.heap.size < _; omega)).trans (HM3.out j v hv))
  have HB4 := Lib.hid (HB3.out.trans (hb4.mono (by omega)))
  have z4 : w.heap.size + 1 < y4.heap.size := by have := hb4.size; omega
  clear ho4 hL4 hb4 HM3 HB3 HO3 c3
  have c4 : y4.cell? ⟨w.heap.size, 5, none⟩ = some (.int .i64 S) := HM4.out 5 _ rfl
  go_wp2_with fail
  refine (put_any _ L4 S 2 (w.heap.size + 1) y4 HO4.out (by omega) (by decide) (by omega)).mono ?_
  rintro e1 y5 ⟨u5, rfl, ho5, hb5⟩
  obtain ⟨L5, hL5⟩ : ∃ L : List Int, L = L4 ++ beB S 2 := ⟨_, rfl⟩
  rw [← hL5] at ho5
  have n5 : L5.length = 22 := by rw [hL5, List.length_append, beB_len, n4]
  have HO5 := Lib.hid ho5
  have HL5 := Lib.hid hL5
  have HM5 := Lib.hid (show Holds y5 w.heap.size (mMsg 0 D C i p S T P r q a b c v e g s) from fun j v hv => (hb5.cell (by show w.heap.size < _; omega)).trans (HM4.out j v hv))
  have HB5 := Lib.hid (HB4.out.trans (hb5.mono (by omega)))
  have z5 : w.heap.size + 1 < y5.heap.size := by have := hb5.size; omega
  clear ho5 hL5 hb5 HM4 HB4 HO4 c4
  have ck : y5.cell? ⟨w.heap.size, 0, none⟩ = some (.int .i64 0) := HM5.out 0 _ rfl
  go_wp2
  go_ret
  have he : L5 = encM 0 D C i p S T P r q a b c v e g s := by
    rw [HL5.out, HL4.out, HL3.out, HL2.out, HL1.out, HL0.out]
    show _ = encF [0, D, C, i, p, S, T, P, r, q, a, b, c, v, e, g, s, 22] hdrF ++ encF [0, D, C, i, p, S, T, P, r, q, a, b, c, v, e, g, s, 22] ([])
    simp [encF, hdrF, beB, byteI]
  exact ⟨u5, rfl, owns_mono (he ▸ HO5.out) (by omega), HB5.out⟩

set_option maxHeartbeats 8000000 in
set_option maxRecDepth 100000 in
theorem rBytes_2 (D C i p S T P r q a b c v e g s : Int) (w : World) :
    Calls Try.prog 21 #[.agg #[.int .i64 2, .int .i64 D, .int .i64 C, .int .i64 i, .int .i64 p, .int .i64 S, .int .i64 T, .int .i64 P, .int .i64 r, .int .i64 q, .int .i64 a, .int .i64 b, .int .i64 c, .int .i64 v, .int .i64 e, .int .i64 g, .int .i64 s]] w fun e1 w' => ∃ u, e1 = .returned u ∧ w'.ownsRow w.heap.size 5 1 u (encM 2 D C i p S T P r q a b c v e g s).length (bys (encM 2 D C i p S T P r q a b c v e g s)) ∧ Below w.heap.size w w' := by
  go_enter Try.func21, Try.ntmps21
  go_wp2_with fail
  obtain ⟨W, hW⟩ : ∃ W, W = (w.alloc (.cells (mMsg 2 D C i p S T P r q a b c v e g s).toArray 27)).alloc (.cells #[.int .u8 2, .int .u8 (D % 256)] 5) := ⟨_, rfl⟩
  have HM0 := Lib.hid (show Holds W w.heap.size (mMsg 2 D C i p S T P r q a b c v e g s) by subst hW; exact (holds_alloc w (mMsg 2 D C i p S T P r q a b c v e g s) 27 rfl).alloc (by simp) _)
  have ho0 : W.ownsRow (w.heap.size + 1) 5 1 (.slice (some ⟨w.heap.size + 1, 0, none⟩) 2 2) [(2 : Int), D % 256].length (bys [(2 : Int), D % 256]) := by
    subst hW
    have := owns_two (w.alloc (.cells (mMsg 2 D C i p S T P r q a b c v e g s).toArray 27)) 2 (D % 256)
    simpa using this
  have HB0 := Lib.hid (show Below w.heap.size w W by subst hW; exact below_alloc (below_alloc (Below.refl _ _) _) _)
  have zW : w.heap.size + 1 < W.heap.size := by subst hW; simp
  obtain ⟨L0, hL0⟩ : ∃ L : List Int, L = [2, D % 256] := ⟨_, rfl⟩
  rw [← hL0] at ho0
  have n0 : L0.length = 2 := by rw [hL0]; rfl
  have HO0 := Lib.hid ho0
  have HL0 := Lib.hid hL0
  clear ho0 hL0
  have hWW : (w.alloc (.cells (mMsg 2 D C i p S T P r q a b c v e g s).toArray 27)).alloc (.cells #[.int .u8 2, .int .u8 (D % 256)] 5) = W := hW.symm
  clear hW
  refine (rsize_2 _).mono ?_
  rintro e1 w9 ⟨rfl, hw9⟩
  have hw9 := hWW.symm.trans hw9
  subst hw9
  clear hWW
  go_wp2_with fail
  refine (put_any _ L0 22 2 (w.heap.size + 1) W HO0.out (by omega) (by decide) (by omega)).mono ?_
  rintro e1 y1 ⟨u1, rfl, ho1, hb1⟩
  obtain ⟨L1, hL1⟩ : ∃ L : List Int, L = L0 ++ beB 22 2 := ⟨_, rfl⟩
  rw [← hL1] at ho1
  have n1 : L1.length = 4 := by rw [hL1, List.length_append, beB_len, n0]
  have HO1 := Lib.hid ho1
  have HL1 := Lib.hid hL1
  have HM1 := Lib.hid (show Holds y1 w.heap.size (mMsg 2 D C i p S T P r q a b c v e g s) from fun j v hv => (hb1.cell (by show w.heap.size < _; omega)).trans (HM0.out j v hv))
  have HB1 := Lib.hid (HB0.out.trans (hb1.mono (by omega)))
  have z1 : w.heap.size + 1 < y1.heap.size := by have := hb1.size; omega
  clear ho1 hL1 hb1 HM0 HB0 HO0
  have c1 : y1.cell? ⟨w.heap.size, 2, none⟩ = some (.int .i64 C) := HM1.out 2 _ rfl
  go_wp2_with fail
  refine (put_any _ L1 C 8 (w.heap.size + 1) y1 HO1.out (by omega) (by decide) (by omega)).mono ?_
  rintro e1 y2 ⟨u2, rfl, ho2, hb2⟩
  obtain ⟨L2, hL2⟩ : ∃ L : List Int, L = L1 ++ beB C 8 := ⟨_, rfl⟩
  rw [← hL2] at ho2
  have n2 : L2.length = 12 := by rw [hL2, List.length_append, beB_len, n1]
  have HO2 := Lib.hid ho2
  have HL2 := Lib.hid hL2
  have HM2 := Lib.hid (show Holds y2 w.heap.size (mMsg 2 D C i p S T P r q a b c v e g s) from fun j v hv => (hb2.cell (by show w.heap.size < _; omega)).trans (HM1.out j v hv))
  have HB2 := Lib.hid (HB1.out.trans (hb2.mono (by omega)))
  have z2 : w.heap.size + 1 < y2.heap.size := by have := hb2.size; omega
  clear ho2 hL2 hb2 HM1 HB1 HO1 c1
  have c2 : y2.cell? ⟨w.heap.size, 3, none⟩ = some (.int .i64 i) := HM2.out 3 _ rfl
  go_wp2_with fail
  refine (put_any _ L2 i 6 (w.heap.size + 1) y2 HO2.out (by omega) (by decide) (by omega)).mono ?_
  rintro e1 y3 ⟨u3, rfl, ho3, hb3⟩
  obtain ⟨L3, hL3⟩ : ∃ L : List Int, L = L2 ++ beB i 6 := ⟨_, rfl⟩
  rw [← hL3] at ho3
  have n3 : L3.length = 18 := by rw [hL3, List.length_append, beB_len, n2]
  have HO3 := Lib.hid ho3
  have HL3 := Lib.hid hL3
  have HM3 := Lib.hid (show Holds y3 w.heap.size (mMsg 2 D C i p S T P r q a b c v e g s) from fun j v hv => (hb3.cell (by show w.heap.size < _; omega)).trans (HM2.out j v hv))
  have HB3 := Lib.hid (HB2.out.trans (hb3.mono (by omega)))
  have z3 : w.heap.size + 1 < y3.heap.size := by have := hb3.size; omega
  clear ho3 hL3 hb3 HM2 HB2 HO2 c2
  have c3 : y3.cell? ⟨w.heap.size, 4, none⟩ = some (.int .i64 p) := HM3.out 4 _ rfl
  go_wp2_with fail
  refine (put_any _ L3 p 2 (w.heap.size + 1) y3 HO3.out (by omega) (by decide) (by omega)).mono ?_
  rintro e1 y4 ⟨u4, rfl, ho4, hb4⟩
  obtain ⟨L4, hL4⟩ : ∃ L : List Int, L = L3 ++ beB p 2 := ⟨_, rfl⟩
  rw [← hL4] at ho4
  have n4 : L4.length = 20 := by rw [hL4, List.length_append, beB_len, n3]
  have HO4 := Lib.hid ho4
  have HL4 := Lib.hid hL4
  have HM4 := Lib.hid (show Holds y4 w.heap.size (mMsg 2 D C i p S T P r q a b c v e g s) from fun j v hv => (hb4.cell (by show w.heap.size < _; omega)).trans (HM3.out j v hv))
  have HB4 := Lib.hid (HB3.out.trans (hb4.mono (by omega)))
  have z4 : w.heap.size + 1 < y4.heap.size := by have := hb4.size; omega
  clear ho4 hL4 hb4 HM3 HB3 HO3 c3
  have c4 : y4.cell? ⟨w.heap.size, 5, none⟩ = some (.int .i64 S) := HM4.out 5 _ rfl
  go_wp2_with fail
  refine (put_any _ L4 S 2 (w.heap.size + 1) y4 HO4.out (by omega) (by decide) (by omega)).mono ?_
  rintro e1 y5 ⟨u5, rfl, ho5, hb5⟩
  obtain ⟨L5, hL5⟩ : ∃ L : List Int, L = L4 ++ beB S 2 := ⟨_, rfl⟩
  rw [← hL5] at ho5
  have n5 : L5.length = 22 := by rw [hL5, List.length_append, beB_len, n4]
  have HO5 := Lib.hid ho5
  have HL5 := Lib.hid hL5
  have HM5 := Lib.hid (show Holds y5 w.heap.size (mMsg 2 D C i p S T P r q a b c v e g s) from fun j v hv => (hb5.cell (by show w.heap.size < _; omega)).trans (HM4.out j v hv))
  have HB5 := Lib.hid (HB4.out.trans (hb5.mono (by omega)))
  have z5 : w.heap.size + 1 < y5.heap.size := by have := hb5.size; omega
  clear ho5 hL5 hb5 HM4 HB4 HO4 c4
  have ck : y5.cell? ⟨w.heap.size, 0, none⟩ = some (.int .i64 2) := HM5.out 0 _ rfl
  go_wp2
  go_ret
  have he : L5 = encM 2 D C i p S T P r q a b c v e g s := by
    rw [HL5.out, HL4.out, HL3.out, HL2.out, HL1.out, HL0.out]
    show _ = encF [2, D, C, i, p, S, T, P, r, q, a, b, c, v, e, g, s, 22] hdrF ++ encF [2, D, C, i, p, S, T, P, r, q, a, b, c, v, e, g, s, 22] ([])
    simp [encF, hdrF, beB, byteI]
  exact ⟨u5, rfl, owns_mono (he ▸ HO5.out) (by omega), HB5.out⟩

set_option maxHeartbeats 8000000 in
set_option maxRecDepth 100000 in
theorem rBytes_3 (D C i p S T P r q a b c v e g s : Int) (w : World) :
    Calls Try.prog 21 #[.agg #[.int .i64 3, .int .i64 D, .int .i64 C, .int .i64 i, .int .i64 p, .int .i64 S, .int .i64 T, .int .i64 P, .int .i64 r, .int .i64 q, .int .i64 a, .int .i64 b, .int .i64 c, .int .i64 v, .int .i64 e, .int .i64 g, .int .i64 s]] w fun e1 w' => ∃ u, e1 = .returned u ∧ w'.ownsRow w.heap.size 5 1 u (encM 3 D C i p S T P r q a b c v e g s).length (bys (encM 3 D C i p S T P r q a b c v e g s)) ∧ Below w.heap.size w w' := by
  go_enter Try.func21, Try.ntmps21
  go_wp2_with fail
  obtain ⟨W, hW⟩ : ∃ W, W = (w.alloc (.cells (mMsg 3 D C i p S T P r q a b c v e g s).toArray 27)).alloc (.cells #[.int .u8 3, .int .u8 (D % 256)] 5) := ⟨_, rfl⟩
  have HM0 := Lib.hid (show Holds W w.heap.size (mMsg 3 D C i p S T P r q a b c v e g s) by subst hW; exact (holds_alloc w (mMsg 3 D C i p S T P r q a b c v e g s) 27 rfl).alloc (by simp) _)
  have ho0 : W.ownsRow (w.heap.size + 1) 5 1 (.slice (some ⟨w.heap.size + 1, 0, none⟩) 2 2) [(3 : Int), D % 256].length (bys [(3 : Int), D % 256]) := by
    subst hW
    have := owns_two (w.alloc (.cells (mMsg 3 D C i p S T P r q a b c v e g s).toArray 27)) 3 (D % 256)
    simpa using this
  have HB0 := Lib.hid (show Below w.heap.size w W by subst hW; exact below_alloc (below_alloc (Below.refl _ _) _) _)
  have zW : w.heap.size + 1 < W.heap.size := by subst hW; simp
  obtain ⟨L0, hL0⟩ : ∃ L : List Int, L = [3, D % 256] := ⟨_, rfl⟩
  rw [← hL0] at ho0
  have n0 : L0.length = 2 := by rw [hL0]; rfl
  have HO0 := Lib.hid ho0
  have HL0 := Lib.hid hL0
  clear ho0 hL0
  have hWW : (w.alloc (.cells (mMsg 3 D C i p S T P r q a b c v e g s).toArray 27)).alloc (.cells #[.int .u8 3, .int .u8 (D % 256)] 5) = W := hW.symm
  clear hW
  refine (rsize_3 _).mono ?_
  rintro e1 w9 ⟨rfl, hw9⟩
  have hw9 := hWW.symm.trans hw9
  subst hw9
  clear hWW
  go_wp2_with fail
  refine (put_any _ L0 38 2 (w.heap.size + 1) W HO0.out (by omega) (by decide) (by omega)).mono ?_
  rintro e1 y1 ⟨u1, rfl, ho1, hb1⟩
  obtain ⟨L1, hL1⟩ : ∃ L : List Int, L = L0 ++ beB 38 2 := ⟨_, rfl⟩
  rw [← hL1] at ho1
  have n1 : L1.length = 4 := by rw [hL1, List.length_append, beB_len, n0]
  have HO1 := Lib.hid ho1
  have HL1 := Lib.hid hL1
  have HM1 := Lib.hid (show Holds y1 w.heap.size (mMsg 3 D C i p S T P r q a b c v e g s) from fun j v hv => (hb1.cell (by show w.heap.size < _; omega)).trans (HM0.out j v hv))
  have HB1 := Lib.hid (HB0.out.trans (hb1.mono (by omega)))
  have z1 : w.heap.size + 1 < y1.heap.size := by have := hb1.size; omega
  clear ho1 hL1 hb1 HM0 HB0 HO0
  have c1 : y1.cell? ⟨w.heap.size, 2, none⟩ = some (.int .i64 C) := HM1.out 2 _ rfl
  go_wp2_with fail
  refine (put_any _ L1 C 8 (w.heap.size + 1) y1 HO1.out (by omega) (by decide) (by omega)).mono ?_
  rintro e1 y2 ⟨u2, rfl, ho2, hb2⟩
  obtain ⟨L2, hL2⟩ : ∃ L : List Int, L = L1 ++ beB C 8 := ⟨_, rfl⟩
  rw [← hL2] at ho2
  have n2 : L2.length = 12 := by rw [hL2, List.length_append, beB_len, n1]
  have HO2 := Lib.hid ho2
  have HL2 := Lib.hid hL2
  have HM2 := Lib.hid (show Holds y2 w.heap.size (mMsg 3 D C i p S T P r q a b c v e g s) from fun j v hv => (hb2.cell (by show w.heap.size < _; omega)).trans (HM1.out j v hv))
  have HB2 := Lib.hid (HB1.out.trans (hb2.mono (by omega)))
  have z2 : w.heap.size + 1 < y2.heap.size := by have := hb2.size; omega
  clear ho2 hL2 hb2 HM1 HB1 HO1 c1
  have c2 : y2.cell? ⟨w.heap.size, 3, none⟩ = some (.int .i64 i) := HM2.out 3 _ rfl
  go_wp2_with fail
  refine (put_any _ L2 i 6 (w.heap.size + 1) y2 HO2.out (by omega) (by decide) (by omega)).mono ?_
  rintro e1 y3 ⟨u3, rfl, ho3, hb3⟩
  obtain ⟨L3, hL3⟩ : ∃ L : List Int, L = L2 ++ beB i 6 := ⟨_, rfl⟩
  rw [← hL3] at ho3
  have n3 : L3.length = 18 := by rw [hL3, List.length_append, beB_len, n2]
  have HO3 := Lib.hid ho3
  have HL3 := Lib.hid hL3
  have HM3 := Lib.hid (show Holds y3 w.heap.size (mMsg 3 D C i p S T P r q a b c v e g s) from fun j v hv => (hb3.cell (by show w.heap.size < _; omega)).trans (HM2.out j v hv))
  have HB3 := Lib.hid (HB2.out.trans (hb3.mono (by omega)))
  have z3 : w.heap.size + 1 < y3.heap.size := by have := hb3.size; omega
  clear ho3 hL3 hb3 HM2 HB2 HO2 c2
  have c3 : y3.cell? ⟨w.heap.size, 4, none⟩ = some (.int .i64 p) := HM3.out 4 _ rfl
  go_wp2_with fail
  refine (put_any _ L3 p 2 (w.heap.size + 1) y3 HO3.out (by omega) (by decide) (by omega)).mono ?_
  rintro e1 y4 ⟨u4, rfl, ho4, hb4⟩
  obtain ⟨L4, hL4⟩ : ∃ L : List Int, L = L3 ++ beB p 2 := ⟨_, rfl⟩
  rw [← hL4] at ho4
  have n4 : L4.length = 20 := by rw [hL4, List.length_append, beB_len, n3]
  have HO4 := Lib.hid ho4
  have HL4 := Lib.hid hL4
  have HM4 := Lib.hid (show Holds y4 w.heap.size (mMsg 3 D C i p S T P r q a b c v e g s) from fun j v hv => (hb4.cell (by show w.heap.size < _; omega)).trans (HM3.out j v hv))
  have HB4 := Lib.hid (HB3.out.trans (hb4.mono (by omega)))
  have z4 : w.heap.size + 1 < y4.heap.size := by have := hb4.size; omega
  clear ho4 hL4 hb4 HM3 HB3 HO3 c3
  have c4 : y4.cell? ⟨w.heap.size, 5, none⟩ = some (.int .i64 S) := HM4.out 5 _ rfl
  go_wp2_with fail
  refine (put_any _ L4 S 2 (w.heap.size + 1) y4 HO4.out (by omega) (by decide) (by omega)).mono ?_
  rintro e1 y5 ⟨u5, rfl, ho5, hb5⟩
  obtain ⟨L5, hL5⟩ : ∃ L : List Int, L = L4 ++ beB S 2 := ⟨_, rfl⟩
  rw [← hL5] at ho5
  have n5 : L5.length = 22 := by rw [hL5, List.length_append, beB_len, n4]
  have HO5 := Lib.hid ho5
  have HL5 := Lib.hid hL5
  have HM5 := Lib.hid (show Holds y5 w.heap.size (mMsg 3 D C i p S T P r q a b c v e g s) from fun j v hv => (hb5.cell (by show w.heap.size < _; omega)).trans (HM4.out j v hv))
  have HB5 := Lib.hid (HB4.out.trans (hb5.mono (by omega)))
  have z5 : w.heap.size + 1 < y5.heap.size := by have := hb5.size; omega
  clear ho5 hL5 hb5 HM4 HB4 HO4 c4
  have c5 : y5.cell? ⟨w.heap.size, 6, none⟩ = some (.int .i64 T) := HM5.out 6 _ rfl
  have ck : y5.cell? ⟨w.heap.size, 0, none⟩ = some (.int .i64 3) := HM5.out 0 _ rfl
  go_wp2_with fail
  refine (put_any _ L5 T 8 (w.heap.size + 1) y5 HO5.out (by omega) (by decide) (by omega)).mono ?_
  rintro e1 y6 ⟨u6, rfl, ho6, hb6⟩
  obtain ⟨L6, hL6⟩ : ∃ L : List Int, L = L5 ++ beB T 8 := ⟨_, rfl⟩
  rw [← hL6] at ho6
  have n6 : L6.length = 30 := by rw [hL6, List.length_append, beB_len, n5]
  have HO6 := Lib.hid ho6
  have HL6 := Lib.hid hL6
  have HM6 := Lib.hid (show Holds y6 w.heap.size (mMsg 3 D C i p S T P r q a b c v e g s) from fun j v hv => (hb6.cell (by show w.heap.size < _; omega)).trans (HM5.out j v hv))
  have HB6 := Lib.hid (HB5.out.trans (hb6.mono (by omega)))
  have z6 : w.heap.size + 1 < y6.heap.size := by have := hb6.size; omega
  clear ho6 hL6 hb6 HM5 HB5 HO5 c5
  have c6 : y6.cell? ⟨w.heap.size, 8, none⟩ = some (.int .i64 r) := HM6.out 8 _ rfl
  go_wp2_with fail
  refine (put_any _ L6 r 6 (w.heap.size + 1) y6 HO6.out (by omega) (by decide) (by omega)).mono ?_
  rintro e1 y7 ⟨u7, rfl, ho7, hb7⟩
  obtain ⟨L7, hL7⟩ : ∃ L : List Int, L = L6 ++ beB r 6 := ⟨_, rfl⟩
  rw [← hL7] at ho7
  have n7 : L7.length = 36 := by rw [hL7, List.length_append, beB_len, n6]
  have HO7 := Lib.hid ho7
  have HL7 := Lib.hid hL7
  have HM7 := Lib.hid (show Holds y7 w.heap.size (mMsg 3 D C i p S T P r q a b c v e g s) from fun j v hv => (hb7.cell (by show w.heap.size < _; omega)).trans (HM6.out j v hv))
  have HB7 := Lib.hid (HB6.out.trans (hb7.mono (by omega)))
  have z7 : w.heap.size + 1 < y7.heap.size := by have := hb7.size; omega
  clear ho7 hL7 hb7 HM6 HB6 HO6 c6
  have c7 : y7.cell? ⟨w.heap.size, 9, none⟩ = some (.int .i64 q) := HM7.out 9 _ rfl
  go_wp2_with fail
  refine (put_any _ L7 q 2 (w.heap.size + 1) y7 HO7.out (by omega) (by decide) (by omega)).mono ?_
  rintro e1 y8 ⟨u8, rfl, ho8, hb8⟩
  obtain ⟨L8, hL8⟩ : ∃ L : List Int, L = L7 ++ beB q 2 := ⟨_, rfl⟩
  rw [← hL8] at ho8
  have n8 : L8.length = 38 := by rw [hL8, List.length_append, beB_len, n7]
  have HO8 := Lib.hid ho8
  have HL8 := Lib.hid hL8
  have HM8 := Lib.hid (show Holds y8 w.heap.size (mMsg 3 D C i p S T P r q a b c v e g s) from fun j v hv => (hb8.cell (by show w.heap.size < _; omega)).trans (HM7.out j v hv))
  have HB8 := Lib.hid (HB7.out.trans (hb8.mono (by omega)))
  have z8 : w.heap.size + 1 < y8.heap.size := by have := hb8.size; omega
  clear ho8 hL8 hb8 HM7 HB7 HO7 c7
  go_wp2
  go_ret
  have he : L8 = encM 3 D C i p S T P r q a b c v e g s := by
    rw [HL8.out, HL7.out, HL6.out, HL5.out, HL4.out, HL3.out, HL2.out, HL1.out, HL0.out]
    show _ = encF [3, D, C, i, p, S, T, P, r, q, a, b, c, v, e, g, s, 38] hdrF ++ encF [3, D, C, i, p, S, T, P, r, q, a, b, c, v, e, g, s, 38] (rspF)
    simp [encF, hdrF, rspF, beB, byteI]
  exact ⟨u8, rfl, owns_mono (he ▸ HO8.out) (by omega), HB8.out⟩

set_option maxHeartbeats 8000000 in
set_option maxRecDepth 100000 in
theorem rBytes_10 (D C i p S T P r q a b c v e g s : Int) (w : World) :
    Calls Try.prog 21 #[.agg #[.int .i64 10, .int .i64 D, .int .i64 C, .int .i64 i, .int .i64 p, .int .i64 S, .int .i64 T, .int .i64 P, .int .i64 r, .int .i64 q, .int .i64 a, .int .i64 b, .int .i64 c, .int .i64 v, .int .i64 e, .int .i64 g, .int .i64 s]] w fun e1 w' => ∃ u, e1 = .returned u ∧ w'.ownsRow w.heap.size 5 1 u (encM 10 D C i p S T P r q a b c v e g s).length (bys (encM 10 D C i p S T P r q a b c v e g s)) ∧ Below w.heap.size w w' := by
  go_enter Try.func21, Try.ntmps21
  go_wp2_with fail
  obtain ⟨W, hW⟩ : ∃ W, W = (w.alloc (.cells (mMsg 10 D C i p S T P r q a b c v e g s).toArray 27)).alloc (.cells #[.int .u8 10, .int .u8 (D % 256)] 5) := ⟨_, rfl⟩
  have HM0 := Lib.hid (show Holds W w.heap.size (mMsg 10 D C i p S T P r q a b c v e g s) by subst hW; exact (holds_alloc w (mMsg 10 D C i p S T P r q a b c v e g s) 27 rfl).alloc (by simp) _)
  have ho0 : W.ownsRow (w.heap.size + 1) 5 1 (.slice (some ⟨w.heap.size + 1, 0, none⟩) 2 2) [(10 : Int), D % 256].length (bys [(10 : Int), D % 256]) := by
    subst hW
    have := owns_two (w.alloc (.cells (mMsg 10 D C i p S T P r q a b c v e g s).toArray 27)) 10 (D % 256)
    simpa using this
  have HB0 := Lib.hid (show Below w.heap.size w W by subst hW; exact below_alloc (below_alloc (Below.refl _ _) _) _)
  have zW : w.heap.size + 1 < W.heap.size := by subst hW; simp
  obtain ⟨L0, hL0⟩ : ∃ L : List Int, L = [10, D % 256] := ⟨_, rfl⟩
  rw [← hL0] at ho0
  have n0 : L0.length = 2 := by rw [hL0]; rfl
  have HO0 := Lib.hid ho0
  have HL0 := Lib.hid hL0
  clear ho0 hL0
  have hWW : (w.alloc (.cells (mMsg 10 D C i p S T P r q a b c v e g s).toArray 27)).alloc (.cells #[.int .u8 10, .int .u8 (D % 256)] 5) = W := hW.symm
  clear hW
  refine (rsize_10 _).mono ?_
  rintro e1 w9 ⟨rfl, hw9⟩
  have hw9 := hWW.symm.trans hw9
  subst hw9
  clear hWW
  go_wp2_with fail
  refine (put_any _ L0 38 2 (w.heap.size + 1) W HO0.out (by omega) (by decide) (by omega)).mono ?_
  rintro e1 y1 ⟨u1, rfl, ho1, hb1⟩
  obtain ⟨L1, hL1⟩ : ∃ L : List Int, L = L0 ++ beB 38 2 := ⟨_, rfl⟩
  rw [← hL1] at ho1
  have n1 : L1.length = 4 := by rw [hL1, List.length_append, beB_len, n0]
  have HO1 := Lib.hid ho1
  have HL1 := Lib.hid hL1
  have HM1 := Lib.hid (show Holds y1 w.heap.size (mMsg 10 D C i p S T P r q a b c v e g s) from fun j v hv => (hb1.cell (by show w.heap.size < _; omega)).trans (HM0.out j v hv))
  have HB1 := Lib.hid (HB0.out.trans (hb1.mono (by omega)))
  have z1 : w.heap.size + 1 < y1.heap.size := by have := hb1.size; omega
  clear ho1 hL1 hb1 HM0 HB0 HO0
  have c1 : y1.cell? ⟨w.heap.size, 2, none⟩ = some (.int .i64 C) := HM1.out 2 _ rfl
  go_wp2_with fail
  refine (put_any _ L1 C 8 (w.heap.size + 1) y1 HO1.out (by omega) (by decide) (by omega)).mono ?_
  rintro e1 y2 ⟨u2, rfl, ho2, hb2⟩
  obtain ⟨L2, hL2⟩ : ∃ L : List Int, L = L1 ++ beB C 8 := ⟨_, rfl⟩
  rw [← hL2] at ho2
  have n2 : L2.length = 12 := by rw [hL2, List.length_append, beB_len, n1]
  have HO2 := Lib.hid ho2
  have HL2 := Lib.hid hL2
  have HM2 := Lib.hid (show Holds y2 w.heap.size (mMsg 10 D C i p S T P r q a b c v e g s) from fun j v hv => (hb2.cell (by show w.heap.size < _; omega)).trans (HM1.out j v hv))
  have HB2 := Lib.hid (HB1.out.trans (hb2.mono (by omega)))
  have z2 : w.heap.size + 1 < y2.heap.size := by have := hb2.size; omega
  clear ho2 hL2 hb2 HM1 HB1 HO1 c1
  have c2 : y2.cell? ⟨w.heap.size, 3, none⟩ = some (.int .i64 i) := HM2.out 3 _ rfl
  go_wp2_with fail
  refine (put_any _ L2 i 6 (w.heap.size + 1) y2 HO2.out (by omega) (by decide) (by omega)).mono ?_
  rintro e1 y3 ⟨u3, rfl, ho3, hb3⟩
  obtain ⟨L3, hL3⟩ : ∃ L : List Int, L = L2 ++ beB i 6 := ⟨_, rfl⟩
  rw [← hL3] at ho3
  have n3 : L3.length = 18 := by rw [hL3, List.length_append, beB_len, n2]
  have HO3 := Lib.hid ho3
  have HL3 := Lib.hid hL3
  have HM3 := Lib.hid (show Holds y3 w.heap.size (mMsg 10 D C i p S T P r q a b c v e g s) from fun j v hv => (hb3.cell (by show w.heap.size < _; omega)).trans (HM2.out j v hv))
  have HB3 := Lib.hid (HB2.out.trans (hb3.mono (by omega)))
  have z3 : w.heap.size + 1 < y3.heap.size := by have := hb3.size; omega
  clear ho3 hL3 hb3 HM2 HB2 HO2 c2
  have c3 : y3.cell? ⟨w.heap.size, 4, none⟩ = some (.int .i64 p) := HM3.out 4 _ rfl
  go_wp2_with fail
  refine (put_any _ L3 p 2 (w.heap.size + 1) y3 HO3.out (by omega) (by decide) (by omega)).mono ?_
  rintro e1 y4 ⟨u4, rfl, ho4, hb4⟩
  obtain ⟨L4, hL4⟩ : ∃ L : List Int, L = L3 ++ beB p 2 := ⟨_, rfl⟩
  rw [← hL4] at ho4
  have n4 : L4.length = 20 := by rw [hL4, List.length_append, beB_len, n3]
  have HO4 := Lib.hid ho4
  have HL4 := Lib.hid hL4
  have HM4 := Lib.hid (show Holds y4 w.heap.size (mMsg 10 D C i p S T P r q a b c v e g s) from fun j v hv => (hb4.cell (by show w.heap.size < _; omega)).trans (HM3.out j v hv))
  have HB4 := Lib.hid (HB3.out.trans (hb4.mono (by omega)))
  have z4 : w.heap.size + 1 < y4.heap.size := by have := hb4.size; omega
  clear ho4 hL4 hb4 HM3 HB3 HO3 c3
  have c4 : y4.cell? ⟨w.heap.size, 5, none⟩ = some (.int .i64 S) := HM4.out 5 _ rfl
  go_wp2_with fail
  refine (put_any _ L4 S 2 (w.heap.size + 1) y4 HO4.out (by omega) (by decide) (by omega)).mono ?_
  rintro e1 y5 ⟨u5, rfl, ho5, hb5⟩
  obtain ⟨L5, hL5⟩ : ∃ L : List Int, L = L4 ++ beB S 2 := ⟨_, rfl⟩
  rw [← hL5] at ho5
  have n5 : L5.length = 22 := by rw [hL5, List.length_append, beB_len, n4]
  have HO5 := Lib.hid ho5
  have HL5 := Lib.hid hL5
  have HM5 := Lib.hid (show Holds y5 w.heap.size (mMsg 10 D C i p S T P r q a b c v e g s) from fun j v hv => (hb5.cell (by show w.heap.size < _; omega)).trans (HM4.out j v hv))
  have HB5 := Lib.hid (HB4.out.trans (hb5.mono (by omega)))
  have z5 : w.heap.size + 1 < y5.heap.size := by have := hb5.size; omega
  clear ho5 hL5 hb5 HM4 HB4 HO4 c4
  have c5 : y5.cell? ⟨w.heap.size, 6, none⟩ = some (.int .i64 T) := HM5.out 6 _ rfl
  have ck : y5.cell? ⟨w.heap.size, 0, none⟩ = some (.int .i64 10) := HM5.out 0 _ rfl
  go_wp2_with fail
  refine (put_any _ L5 T 8 (w.heap.size + 1) y5 HO5.out (by omega) (by decide) (by omega)).mono ?_
  rintro e1 y6 ⟨u6, rfl, ho6, hb6⟩
  obtain ⟨L6, hL6⟩ : ∃ L : List Int, L = L5 ++ beB T 8 := ⟨_, rfl⟩
  rw [← hL6] at ho6
  have n6 : L6.length = 30 := by rw [hL6, List.length_append, beB_len, n5]
  have HO6 := Lib.hid ho6
  have HL6 := Lib.hid hL6
  have HM6 := Lib.hid (show Holds y6 w.heap.size (mMsg 10 D C i p S T P r q a b c v e g s) from fun j v hv => (hb6.cell (by show w.heap.size < _; omega)).trans (HM5.out j v hv))
  have HB6 := Lib.hid (HB5.out.trans (hb6.mono (by omega)))
  have z6 : w.heap.size + 1 < y6.heap.size := by have := hb6.size; omega
  clear ho6 hL6 hb6 HM5 HB5 HO5 c5
  have c6 : y6.cell? ⟨w.heap.size, 8, none⟩ = some (.int .i64 r) := HM6.out 8 _ rfl
  go_wp2_with fail
  refine (put_any _ L6 r 6 (w.heap.size + 1) y6 HO6.out (by omega) (by decide) (by omega)).mono ?_
  rintro e1 y7 ⟨u7, rfl, ho7, hb7⟩
  obtain ⟨L7, hL7⟩ : ∃ L : List Int, L = L6 ++ beB r 6 := ⟨_, rfl⟩
  rw [← hL7] at ho7
  have n7 : L7.length = 36 := by rw [hL7, List.length_append, beB_len, n6]
  have HO7 := Lib.hid ho7
  have HL7 := Lib.hid hL7
  have HM7 := Lib.hid (show Holds y7 w.heap.size (mMsg 10 D C i p S T P r q a b c v e g s) from fun j v hv => (hb7.cell (by show w.heap.size < _; omega)).trans (HM6.out j v hv))
  have HB7 := Lib.hid (HB6.out.trans (hb7.mono (by omega)))
  have z7 : w.heap.size + 1 < y7.heap.size := by have := hb7.size; omega
  clear ho7 hL7 hb7 HM6 HB6 HO6 c6
  have c7 : y7.cell? ⟨w.heap.size, 9, none⟩ = some (.int .i64 q) := HM7.out 9 _ rfl
  go_wp2_with fail
  refine (put_any _ L7 q 2 (w.heap.size + 1) y7 HO7.out (by omega) (by decide) (by omega)).mono ?_
  rintro e1 y8 ⟨u8, rfl, ho8, hb8⟩
  obtain ⟨L8, hL8⟩ : ∃ L : List Int, L = L7 ++ beB q 2 := ⟨_, rfl⟩
  rw [← hL8] at ho8
  have n8 : L8.length = 38 := by rw [hL8, List.length_append, beB_len, n7]
  have HO8 := Lib.hid ho8
  have HL8 := Lib.hid hL8
  have HM8 := Lib.hid (show Holds y8 w.heap.size (mMsg 10 D C i p S T P r q a b c v e g s) from fun j v hv => (hb8.cell (by show w.heap.size < _; omega)).trans (HM7.out j v hv))
  have HB8 := Lib.hid (HB7.out.trans (hb8.mono (by omega)))
  have z8 : w.heap.size + 1 < y8.heap.size := by have := hb8.size; omega
  clear ho8 hL8 hb8 HM7 HB7 HO7 c7
  go_wp2
  go_ret
  have he : L8 = encM 10 D C i p S T P r q a b c v e g s := by
    rw [HL8.out, HL7.out, HL6.out, HL5.out, HL4.out, HL3.out, HL2.out, HL1.out, HL0.out]
    show _ = encF [10, D, C, i, p, S, T, P, r, q, a, b, c, v, e, g, s, 38] hdrF ++ encF [10, D, C, i, p, S, T, P, r, q, a, b, c, v, e, g, s, 38] (rspF)
    simp [encF, hdrF, rspF, beB, byteI]
  exact ⟨u8, rfl, owns_mono (he ▸ HO8.out) (by omega), HB8.out⟩

set_option maxHeartbeats 8000000 in
set_option maxRecDepth 100000 in
theorem rBytes_8 (D C i p S T P r q a b c v e g s : Int) (w : World) :
    Calls Try.prog 21 #[.agg #[.int .i64 8, .int .i64 D, .int .i64 C, .int .i64 i, .int .i64 p, .int .i64 S, .int .i64 T, .int .i64 P, .int .i64 r, .int .i64 q, .int .i64 a, .int .i64 b, .int .i64 c, .int .i64 v, .int .i64 e, .int .i64 g, .int .i64 s]] w fun e1 w' => ∃ u, e1 = .returned u ∧ w'.ownsRow w.heap.size 5 1 u (encM 8 D C i p S T P r q a b c v e g s).length (bys (encM 8 D C i p S T P r q a b c v e g s)) ∧ Below w.heap.size w w' := by
  go_enter Try.func21, Try.ntmps21
  go_wp2_with fail
  obtain ⟨W, hW⟩ : ∃ W, W = (w.alloc (.cells (mMsg 8 D C i p S T P r q a b c v e g s).toArray 27)).alloc (.cells #[.int .u8 8, .int .u8 (D % 256)] 5) := ⟨_, rfl⟩
  have HM0 := Lib.hid (show Holds W w.heap.size (mMsg 8 D C i p S T P r q a b c v e g s) by subst hW; exact (holds_alloc w (mMsg 8 D C i p S T P r q a b c v e g s) 27 rfl).alloc (by simp) _)
  have ho0 : W.ownsRow (w.heap.size + 1) 5 1 (.slice (some ⟨w.heap.size + 1, 0, none⟩) 2 2) [(8 : Int), D % 256].length (bys [(8 : Int), D % 256]) := by
    subst hW
    have := owns_two (w.alloc (.cells (mMsg 8 D C i p S T P r q a b c v e g s).toArray 27)) 8 (D % 256)
    simpa using this
  have HB0 := Lib.hid (show Below w.heap.size w W by subst hW; exact below_alloc (below_alloc (Below.refl _ _) _) _)
  have zW : w.heap.size + 1 < W.heap.size := by subst hW; simp
  obtain ⟨L0, hL0⟩ : ∃ L : List Int, L = [8, D % 256] := ⟨_, rfl⟩
  rw [← hL0] at ho0
  have n0 : L0.length = 2 := by rw [hL0]; rfl
  have HO0 := Lib.hid ho0
  have HL0 := Lib.hid hL0
  clear ho0 hL0
  have hWW : (w.alloc (.cells (mMsg 8 D C i p S T P r q a b c v e g s).toArray 27)).alloc (.cells #[.int .u8 8, .int .u8 (D % 256)] 5) = W := hW.symm
  clear hW
  refine (rsize_8 _).mono ?_
  rintro e1 w9 ⟨rfl, hw9⟩
  have hw9 := hWW.symm.trans hw9
  subst hw9
  clear hWW
  go_wp2_with fail
  refine (put_any _ L0 34 2 (w.heap.size + 1) W HO0.out (by omega) (by decide) (by omega)).mono ?_
  rintro e1 y1 ⟨u1, rfl, ho1, hb1⟩
  obtain ⟨L1, hL1⟩ : ∃ L : List Int, L = L0 ++ beB 34 2 := ⟨_, rfl⟩
  rw [← hL1] at ho1
  have n1 : L1.length = 4 := by rw [hL1, List.length_append, beB_len, n0]
  have HO1 := Lib.hid ho1
  have HL1 := Lib.hid hL1
  have HM1 := Lib.hid (show Holds y1 w.heap.size (mMsg 8 D C i p S T P r q a b c v e g s) from fun j v hv => (hb1.cell (by show w.heap.size < _; omega)).trans (HM0.out j v hv))
  have HB1 := Lib.hid (HB0.out.trans (hb1.mono (by omega)))
  have z1 : w.heap.size + 1 < y1.heap.size := by have := hb1.size; omega
  clear ho1 hL1 hb1 HM0 HB0 HO0
  have c1 : y1.cell? ⟨w.heap.size, 2, none⟩ = some (.int .i64 C) := HM1.out 2 _ rfl
  go_wp2_with fail
  refine (put_any _ L1 C 8 (w.heap.size + 1) y1 HO1.out (by omega) (by decide) (by omega)).mono ?_
  rintro e1 y2 ⟨u2, rfl, ho2, hb2⟩
  obtain ⟨L2, hL2⟩ : ∃ L : List Int, L = L1 ++ beB C 8 := ⟨_, rfl⟩
  rw [← hL2] at ho2
  have n2 : L2.length = 12 := by rw [hL2, List.length_append, beB_len, n1]
  have HO2 := Lib.hid ho2
  have HL2 := Lib.hid hL2
  have HM2 := Lib.hid (show Holds y2 w.heap.size (mMsg 8 D C i p S T P r q a b c v e g s) from fun j v hv => (hb2.cell (by show w.heap.size < _; omega)).trans (HM1.out j v hv))
  have HB2 := Lib.hid (HB1.out.trans (hb2.mono (by omega)))
  have z2 : w.heap.size + 1 < y2.heap.size := by have := hb2.size; omega
  clear ho2 hL2 hb2 HM1 HB1 HO1 c1
  have c2 : y2.cell? ⟨w.heap.size, 3, none⟩ = some (.int .i64 i) := HM2.out 3 _ rfl
  go_wp2_with fail
  refine (put_any _ L2 i 6 (w.heap.size + 1) y2 HO2.out (by omega) (by decide) (by omega)).mono ?_
  rintro e1 y3 ⟨u3, rfl, ho3, hb3⟩
  obtain ⟨L3, hL3⟩ : ∃ L : List Int, L = L2 ++ beB i 6 := ⟨_, rfl⟩
  rw [← hL3] at ho3
  have n3 : L3.length = 18 := by rw [hL3, List.length_append, beB_len, n2]
  have HO3 := Lib.hid ho3
  have HL3 := Lib.hid hL3
  have HM3 := Lib.hid (show Holds y3 w.heap.size (mMsg 8 D C i p S T P r q a b c v e g s) from fun j v hv => (hb3.cell (by show w.heap.size < _; omega)).trans (HM2.out j v hv))
  have HB3 := Lib.hid (HB2.out.trans (hb3.mono (by omega)))
  have z3 : w.heap.size + 1 < y3.heap.size := by have := hb3.size; omega
  clear ho3 hL3 hb3 HM2 HB2 HO2 c2
  have c3 : y3.cell? ⟨w.heap.size, 4, none⟩ = some (.int .i64 p) := HM3.out 4 _ rfl
  go_wp2_with fail
  refine (put_any _ L3 p 2 (w.heap.size + 1) y3 HO3.out (by omega) (by decide) (by omega)).mono ?_
  rintro e1 y4 ⟨u4, rfl, ho4, hb4⟩
  obtain ⟨L4, hL4⟩ : ∃ L : List Int, L = L3 ++ beB p 2 := ⟨_, rfl⟩
  rw [← hL4] at ho4
  have n4 : L4.length = 20 := by rw [hL4, List.length_append, beB_len, n3]
  have HO4 := Lib.hid ho4
  have HL4 := Lib.hid hL4
  have HM4 := Lib.hid (show Holds y4 w.heap.size (mMsg 8 D C i p S T P r q a b c v e g s) from fun j v hv => (hb4.cell (by show w.heap.size < _; omega)).trans (HM3.out j v hv))
  have HB4 := Lib.hid (HB3.out.trans (hb4.mono (by omega)))
  have z4 : w.heap.size + 1 < y4.heap.size := by have := hb4.size; omega
  clear ho4 hL4 hb4 HM3 HB3 HO3 c3
  have c4 : y4.cell? ⟨w.heap.size, 5, none⟩ = some (.int .i64 S) := HM4.out 5 _ rfl
  go_wp2_with fail
  refine (put_any _ L4 S 2 (w.heap.size + 1) y4 HO4.out (by omega) (by decide) (by omega)).mono ?_
  rintro e1 y5 ⟨u5, rfl, ho5, hb5⟩
  obtain ⟨L5, hL5⟩ : ∃ L : List Int, L = L4 ++ beB S 2 := ⟨_, rfl⟩
  rw [← hL5] at ho5
  have n5 : L5.length = 22 := by rw [hL5, List.length_append, beB_len, n4]
  have HO5 := Lib.hid ho5
  have HL5 := Lib.hid hL5
  have HM5 := Lib.hid (show Holds y5 w.heap.size (mMsg 8 D C i p S T P r q a b c v e g s) from fun j v hv => (hb5.cell (by show w.heap.size < _; omega)).trans (HM4.out j v hv))
  have HB5 := Lib.hid (HB4.out.trans (hb5.mono (by omega)))
  have z5 : w.heap.size + 1 < y5.heap.size := by have := hb5.size; omega
  clear ho5 hL5 hb5 HM4 HB4 HO4 c4
  have c5 : y5.cell? ⟨w.heap.size, 6, none⟩ = some (.int .i64 T) := HM5.out 6 _ rfl
  have ck : y5.cell? ⟨w.heap.size, 0, none⟩ = some (.int .i64 8) := HM5.out 0 _ rfl
  go_wp2_with fail
  refine (put_any _ L5 T 8 (w.heap.size + 1) y5 HO5.out (by omega) (by decide) (by omega)).mono ?_
  rintro e1 y6 ⟨u6, rfl, ho6, hb6⟩
  obtain ⟨L6, hL6⟩ : ∃ L : List Int, L = L5 ++ beB T 8 := ⟨_, rfl⟩
  rw [← hL6] at ho6
  have n6 : L6.length = 30 := by rw [hL6, List.length_append, beB_len, n5]
  have HO6 := Lib.hid ho6
  have HL6 := Lib.hid hL6
  have HM6 := Lib.hid (show Holds y6 w.heap.size (mMsg 8 D C i p S T P r q a b c v e g s) from fun j v hv => (hb6.cell (by show w.heap.size < _; omega)).trans (HM5.out j v hv))
  have HB6 := Lib.hid (HB5.out.trans (hb6.mono (by omega)))
  have z6 : w.heap.size + 1 < y6.heap.size := by have := hb6.size; omega
  clear ho6 hL6 hb6 HM5 HB5 HO5 c5
  have c6 : y6.cell? ⟨w.heap.size, 7, none⟩ = some (.int .i64 P) := HM6.out 7 _ rfl
  go_wp2_with fail
  refine (put_any _ L6 P 4 (w.heap.size + 1) y6 HO6.out (by omega) (by decide) (by omega)).mono ?_
  rintro e1 y7 ⟨u7, rfl, ho7, hb7⟩
  obtain ⟨L7, hL7⟩ : ∃ L : List Int, L = L6 ++ beB P 4 := ⟨_, rfl⟩
  rw [← hL7] at ho7
  have n7 : L7.length = 34 := by rw [hL7, List.length_append, beB_len, n6]
  have HO7 := Lib.hid ho7
  have HL7 := Lib.hid hL7
  have HM7 := Lib.hid (show Holds y7 w.heap.size (mMsg 8 D C i p S T P r q a b c v e g s) from fun j v hv => (hb7.cell (by show w.heap.size < _; omega)).trans (HM6.out j v hv))
  have HB7 := Lib.hid (HB6.out.trans (hb7.mono (by omega)))
  have z7 : w.heap.size + 1 < y7.heap.size := by have := hb7.size; omega
  clear ho7 hL7 hb7 HM6 HB6 HO6 c6
  go_wp2
  go_ret
  have he : L7 = encM 8 D C i p S T P r q a b c v e g s := by
    rw [HL7.out, HL6.out, HL5.out, HL4.out, HL3.out, HL2.out, HL1.out, HL0.out]
    show _ = encF [8, D, C, i, p, S, T, P, r, q, a, b, c, v, e, g, s, 34] hdrF ++ encF [8, D, C, i, p, S, T, P, r, q, a, b, c, v, e, g, s, 34] (folF)
    simp [encF, hdrF, folF, beB, byteI]
  exact ⟨u7, rfl, owns_mono (he ▸ HO7.out) (by omega), HB7.out⟩

set_option maxHeartbeats 8000000 in
set_option maxRecDepth 100000 in
theorem rBytes_11 (D C i p S T P r q a b c v e g s : Int) (w : World) :
    Calls Try.prog 21 #[.agg #[.int .i64 11, .int .i64 D, .int .i64 C, .int .i64 i, .int .i64 p, .int .i64 S, .int .i64 T, .int .i64 P, .int .i64 r, .int .i64 q, .int .i64 a, .int .i64 b, .int .i64 c, .int .i64 v, .int .i64 e, .int .i64 g, .int .i64 s]] w fun e1 w' => ∃ u, e1 = .returned u ∧ w'.ownsRow w.heap.size 5 1 u (encM 11 D C i p S T P r q a b c v e g s).length (bys (encM 11 D C i p S T P r q a b c v e g s)) ∧ Below w.heap.size w w' := by
  go_enter Try.func21, Try.ntmps21
  go_wp2_with fail
  obtain ⟨W, hW⟩ : ∃ W, W = (w.alloc (.cells (mMsg 11 D C i p S T P r q a b c v e g s).toArray 27)).alloc (.cells #[.int .u8 11, .int .u8 (D % 256)] 5) := ⟨_, rfl⟩
  have HM0 := Lib.hid (show Holds W w.heap.size (mMsg 11 D C i p S T P r q a b c v e g s) by subst hW; exact (holds_alloc w (mMsg 11 D C i p S T P r q a b c v e g s) 27 rfl).alloc (by simp) _)
  have ho0 : W.ownsRow (w.heap.size + 1) 5 1 (.slice (some ⟨w.heap.size + 1, 0, none⟩) 2 2) [(11 : Int), D % 256].length (bys [(11 : Int), D % 256]) := by
    subst hW
    have := owns_two (w.alloc (.cells (mMsg 11 D C i p S T P r q a b c v e g s).toArray 27)) 11 (D % 256)
    simpa using this
  have HB0 := Lib.hid (show Below w.heap.size w W by subst hW; exact below_alloc (below_alloc (Below.refl _ _) _) _)
  have zW : w.heap.size + 1 < W.heap.size := by subst hW; simp
  obtain ⟨L0, hL0⟩ : ∃ L : List Int, L = [11, D % 256] := ⟨_, rfl⟩
  rw [← hL0] at ho0
  have n0 : L0.length = 2 := by rw [hL0]; rfl
  have HO0 := Lib.hid ho0
  have HL0 := Lib.hid hL0
  clear ho0 hL0
  have hWW : (w.alloc (.cells (mMsg 11 D C i p S T P r q a b c v e g s).toArray 27)).alloc (.cells #[.int .u8 11, .int .u8 (D % 256)] 5) = W := hW.symm
  clear hW
  refine (rsize_11 _).mono ?_
  rintro e1 w9 ⟨rfl, hw9⟩
  have hw9 := hWW.symm.trans hw9
  subst hw9
  clear hWW
  go_wp2_with fail
  refine (put_any _ L0 36 2 (w.heap.size + 1) W HO0.out (by omega) (by decide) (by omega)).mono ?_
  rintro e1 y1 ⟨u1, rfl, ho1, hb1⟩
  obtain ⟨L1, hL1⟩ : ∃ L : List Int, L = L0 ++ beB 36 2 := ⟨_, rfl⟩
  rw [← hL1] at ho1
  have n1 : L1.length = 4 := by rw [hL1, List.length_append, beB_len, n0]
  have HO1 := Lib.hid ho1
  have HL1 := Lib.hid hL1
  have HM1 := Lib.hid (show Holds y1 w.heap.size (mMsg 11 D C i p S T P r q a b c v e g s) from fun j v hv => (hb1.cell (by show w.heap.size < _; omega)).trans (HM0.out j v hv))
  have HB1 := Lib.hid (HB0.out.trans (hb1.mono (by omega)))
  have z1 : w.heap.size + 1 < y1.heap.size := by have := hb1.size; omega
  clear ho1 hL1 hb1 HM0 HB0 HO0
  have c1 : y1.cell? ⟨w.heap.size, 2, none⟩ = some (.int .i64 C) := HM1.out 2 _ rfl
  go_wp2_with fail
  refine (put_any _ L1 C 8 (w.heap.size + 1) y1 HO1.out (by omega) (by decide) (by omega)).mono ?_
  rintro e1 y2 ⟨u2, rfl, ho2, hb2⟩
  obtain ⟨L2, hL2⟩ : ∃ L : List Int, L = L1 ++ beB C 8 := ⟨_, rfl⟩
  rw [← hL2] at ho2
  have n2 : L2.length = 12 := by rw [hL2, List.length_append, beB_len, n1]
  have HO2 := Lib.hid ho2
  have HL2 := Lib.hid hL2
  have HM2 := Lib.hid (show Holds y2 w.heap.size (mMsg 11 D C i p S T P r q a b c v e g s) from fun j v hv => (hb2.cell (by show w.heap.size < _; omega)).trans (HM1.out j v hv))
  have HB2 := Lib.hid (HB1.out.trans (hb2.mono (by omega)))
  have z2 : w.heap.size + 1 < y2.heap.size := by have := hb2.size; omega
  clear ho2 hL2 hb2 HM1 HB1 HO1 c1
  have c2 : y2.cell? ⟨w.heap.size, 3, none⟩ = some (.int .i64 i) := HM2.out 3 _ rfl
  go_wp2_with fail
  refine (put_any _ L2 i 6 (w.heap.size + 1) y2 HO2.out (by omega) (by decide) (by omega)).mono ?_
  rintro e1 y3 ⟨u3, rfl, ho3, hb3⟩
  obtain ⟨L3, hL3⟩ : ∃ L : List Int, L = L2 ++ beB i 6 := ⟨_, rfl⟩
  rw [← hL3] at ho3
  have n3 : L3.length = 18 := by rw [hL3, List.length_append, beB_len, n2]
  have HO3 := Lib.hid ho3
  have HL3 := Lib.hid hL3
  have HM3 := Lib.hid (show Holds y3 w.heap.size (mMsg 11 D C i p S T P r q a b c v e g s) from fun j v hv => (hb3.cell (by show w.heap.size < _; omega)).trans (HM2.out j v hv))
  have HB3 := Lib.hid (HB2.out.trans (hb3.mono (by omega)))
  have z3 : w.heap.size + 1 < y3.heap.size := by have := hb3.size; omega
  clear ho3 hL3 hb3 HM2 HB2 HO2 c2
  have c3 : y3.cell? ⟨w.heap.size, 4, none⟩ = some (.int .i64 p) := HM3.out 4 _ rfl
  go_wp2_with fail
  refine (put_any _ L3 p 2 (w.heap.size + 1) y3 HO3.out (by omega) (by decide) (by omega)).mono ?_
  rintro e1 y4 ⟨u4, rfl, ho4, hb4⟩
  obtain ⟨L4, hL4⟩ : ∃ L : List Int, L = L3 ++ beB p 2 := ⟨_, rfl⟩
  rw [← hL4] at ho4
  have n4 : L4.length = 20 := by rw [hL4, List.length_append, beB_len, n3]
  have HO4 := Lib.hid ho4
  have HL4 := Lib.hid hL4
  have HM4 := Lib.hid (show Holds y4 w.heap.size (mMsg 11 D C i p S T P r q a b c v e g s) from fun j v hv => (hb4.cell (by show w.heap.size < _; omega)).trans (HM3.out j v hv))
  have HB4 := Lib.hid (HB3.out.trans (hb4.mono (by omega)))
  have z4 : w.heap.size + 1 < y4.heap.size := by have := hb4.size; omega
  clear ho4 hL4 hb4 HM3 HB3 HO3 c3
  have c4 : y4.cell? ⟨w.heap.size, 5, none⟩ = some (.int .i64 S) := HM4.out 5 _ rfl
  go_wp2_with fail
  refine (put_any _ L4 S 2 (w.heap.size + 1) y4 HO4.out (by omega) (by decide) (by omega)).mono ?_
  rintro e1 y5 ⟨u5, rfl, ho5, hb5⟩
  obtain ⟨L5, hL5⟩ : ∃ L : List Int, L = L4 ++ beB S 2 := ⟨_, rfl⟩
  rw [← hL5] at ho5
  have n5 : L5.length = 22 := by rw [hL5, List.length_append, beB_len, n4]
  have HO5 := Lib.hid ho5
  have HL5 := Lib.hid hL5
  have HM5 := Lib.hid (show Holds y5 w.heap.size (mMsg 11 D C i p S T P r q a b c v e g s) from fun j v hv => (hb5.cell (by show w.heap.size < _; omega)).trans (HM4.out j v hv))
  have HB5 := Lib.hid (HB4.out.trans (hb5.mono (by omega)))
  have z5 : w.heap.size + 1 < y5.heap.size := by have := hb5.size; omega
  clear ho5 hL5 hb5 HM4 HB4 HO4 c4
  have c5 : y5.cell? ⟨w.heap.size, 10, none⟩ = some (.int .i64 a) := HM5.out 10 _ rfl
  have ck : y5.cell? ⟨w.heap.size, 0, none⟩ = some (.int .i64 11) := HM5.out 0 _ rfl
  go_wp2_with fail
  refine (put_any _ L5 a 1 (w.heap.size + 1) y5 HO5.out (by omega) (by decide) (by omega)).mono ?_
  rintro e1 y6 ⟨u6, rfl, ho6, hb6⟩
  obtain ⟨L6, hL6⟩ : ∃ L : List Int, L = L5 ++ beB a 1 := ⟨_, rfl⟩
  rw [← hL6] at ho6
  have n6 : L6.length = 23 := by rw [hL6, List.length_append, beB_len, n5]
  have HO6 := Lib.hid ho6
  have HL6 := Lib.hid hL6
  have HM6 := Lib.hid (show Holds y6 w.heap.size (mMsg 11 D C i p S T P r q a b c v e g s) from fun j v hv => (hb6.cell (by show w.heap.size < _; omega)).trans (HM5.out j v hv))
  have HB6 := Lib.hid (HB5.out.trans (hb6.mono (by omega)))
  have z6 : w.heap.size + 1 < y6.heap.size := by have := hb6.size; omega
  clear ho6 hL6 hb6 HM5 HB5 HO5 c5
  have c6 : y6.cell? ⟨w.heap.size, 11, none⟩ = some (.int .i64 b) := HM6.out 11 _ rfl
  go_wp2_with fail
  refine (put_any _ L6 b 1 (w.heap.size + 1) y6 HO6.out (by omega) (by decide) (by omega)).mono ?_
  rintro e1 y7 ⟨u7, rfl, ho7, hb7⟩
  obtain ⟨L7, hL7⟩ : ∃ L : List Int, L = L6 ++ beB b 1 := ⟨_, rfl⟩
  rw [← hL7] at ho7
  have n7 : L7.length = 24 := by rw [hL7, List.length_append, beB_len, n6]
  have HO7 := Lib.hid ho7
  have HL7 := Lib.hid hL7
  have HM7 := Lib.hid (show Holds y7 w.heap.size (mMsg 11 D C i p S T P r q a b c v e g s) from fun j v hv => (hb7.cell (by show w.heap.size < _; omega)).trans (HM6.out j v hv))
  have HB7 := Lib.hid (HB6.out.trans (hb7.mono (by omega)))
  have z7 : w.heap.size + 1 < y7.heap.size := by have := hb7.size; omega
  clear ho7 hL7 hb7 HM6 HB6 HO6 c6
  have c7 : y7.cell? ⟨w.heap.size, 12, none⟩ = some (.int .i64 c) := HM7.out 12 _ rfl
  go_wp2_with fail
  refine (put_any _ L7 c 1 (w.heap.size + 1) y7 HO7.out (by omega) (by decide) (by omega)).mono ?_
  rintro e1 y8 ⟨u8, rfl, ho8, hb8⟩
  obtain ⟨L8, hL8⟩ : ∃ L : List Int, L = L7 ++ beB c 1 := ⟨_, rfl⟩
  rw [← hL8] at ho8
  have n8 : L8.length = 25 := by rw [hL8, List.length_append, beB_len, n7]
  have HO8 := Lib.hid ho8
  have HL8 := Lib.hid hL8
  have HM8 := Lib.hid (show Holds y8 w.heap.size (mMsg 11 D C i p S T P r q a b c v e g s) from fun j v hv => (hb8.cell (by show w.heap.size < _; omega)).trans (HM7.out j v hv))
  have HB8 := Lib.hid (HB7.out.trans (hb8.mono (by omega)))
  have z8 : w.heap.size + 1 < y8.heap.size := by have := hb8.size; omega
  clear ho8 hL8 hb8 HM7 HB7 HO7 c7
  have c8 : y8.cell? ⟨w.heap.size, 13, none⟩ = some (.int .i64 v) := HM8.out 13 _ rfl
  go_wp2_with fail
  refine (put_any _ L8 v 2 (w.heap.size + 1) y8 HO8.out (by omega) (by decide) (by omega)).mono ?_
  rintro e1 y9 ⟨u9, rfl, ho9, hb9⟩
  obtain ⟨L9, hL9⟩ : ∃ L : List Int, L = L8 ++ beB v 2 := ⟨_, rfl⟩
  rw [← hL9] at ho9
  have n9 : L9.length = 27 := by rw [hL9, List.length_append, beB_len, n8]
  have HO9 := Lib.hid ho9
  have HL9 := Lib.hid hL9
  have HM9 := Lib.hid (show Holds y9 w.heap.size (mMsg 11 D C i p S T P r q a b c v e g s) from fun j v hv => (hb9.cell (by show w.heap.size < _; omega)).trans (HM8.out j v hv))
  have HB9 := Lib.hid (HB8.out.trans (hb9.mono (by omega)))
  have z9 : w.heap.size + 1 < y9.heap.size := by have := hb9.size; omega
  clear ho9 hL9 hb9 HM8 HB8 HO8 c8
  have c9 : y9.cell? ⟨w.heap.size, 14, none⟩ = some (.int .i64 e) := HM9.out 14 _ rfl
  go_wp2_with fail
  refine (put_any _ L9 e 1 (w.heap.size + 1) y9 HO9.out (by omega) (by decide) (by omega)).mono ?_
  rintro e1 y10 ⟨u10, rfl, ho10, hb10⟩
  obtain ⟨L10, hL10⟩ : ∃ L : List Int, L = L9 ++ beB e 1 := ⟨_, rfl⟩
  rw [← hL10] at ho10
  have n10 : L10.length = 28 := by rw [hL10, List.length_append, beB_len, n9]
  have HO10 := Lib.hid ho10
  have HL10 := Lib.hid hL10
  have HM10 := Lib.hid (show Holds y10 w.heap.size (mMsg 11 D C i p S T P r q a b c v e g s) from fun j v hv => (hb10.cell (by show w.heap.size < _; omega)).trans (HM9.out j v hv))
  have HB10 := Lib.hid (HB9.out.trans (hb10.mono (by omega)))
  have z10 : w.heap.size + 1 < y10.heap.size := by have := hb10.size; omega
  clear ho10 hL10 hb10 HM9 HB9 HO9 c9
  have c10 : y10.cell? ⟨w.heap.size, 15, none⟩ = some (.int .i64 g) := HM10.out 15 _ rfl
  go_wp2_with fail
  refine (put_any _ L10 g 6 (w.heap.size + 1) y10 HO10.out (by omega) (by decide) (by omega)).mono ?_
  rintro e1 y11 ⟨u11, rfl, ho11, hb11⟩
  obtain ⟨L11, hL11⟩ : ∃ L : List Int, L = L10 ++ beB g 6 := ⟨_, rfl⟩
  rw [← hL11] at ho11
  have n11 : L11.length = 34 := by rw [hL11, List.length_append, beB_len, n10]
  have HO11 := Lib.hid ho11
  have HL11 := Lib.hid hL11
  have HM11 := Lib.hid (show Holds y11 w.heap.size (mMsg 11 D C i p S T P r q a b c v e g s) from fun j v hv => (hb11.cell (by show w.heap.size < _; omega)).trans (HM10.out j v hv))
  have HB11 := Lib.hid (HB10.out.trans (hb11.mono (by omega)))
  have z11 : w.heap.size + 1 < y11.heap.size := by have := hb11.size; omega
  clear ho11 hL11 hb11 HM10 HB10 HO10 c10
  have c11 : y11.cell? ⟨w.heap.size, 16, none⟩ = some (.int .i64 s) := HM11.out 16 _ rfl
  go_wp2_with fail
  refine (put_any _ L11 s 2 (w.heap.size + 1) y11 HO11.out (by omega) (by decide) (by omega)).mono ?_
  rintro e1 y12 ⟨u12, rfl, ho12, hb12⟩
  obtain ⟨L12, hL12⟩ : ∃ L : List Int, L = L11 ++ beB s 2 := ⟨_, rfl⟩
  rw [← hL12] at ho12
  have n12 : L12.length = 36 := by rw [hL12, List.length_append, beB_len, n11]
  have HO12 := Lib.hid ho12
  have HL12 := Lib.hid hL12
  have HM12 := Lib.hid (show Holds y12 w.heap.size (mMsg 11 D C i p S T P r q a b c v e g s) from fun j v hv => (hb12.cell (by show w.heap.size < _; omega)).trans (HM11.out j v hv))
  have HB12 := Lib.hid (HB11.out.trans (hb12.mono (by omega)))
  have z12 : w.heap.size + 1 < y12.heap.size := by have := hb12.size; omega
  clear ho12 hL12 hb12 HM11 HB11 HO11 c11
  go_wp2
  go_ret
  have he : L12 = encM 11 D C i p S T P r q a b c v e g s := by
    rw [HL12.out, HL11.out, HL10.out, HL9.out, HL8.out, HL7.out, HL6.out, HL5.out, HL4.out, HL3.out, HL2.out, HL1.out, HL0.out]
    show _ = encF [11, D, C, i, p, S, T, P, r, q, a, b, c, v, e, g, s, 36] hdrF ++ encF [11, D, C, i, p, S, T, P, r, q, a, b, c, v, e, g, s, 36] (annF)
    simp [encF, hdrF, annF, beB, byteI]
  exact ⟨u12, rfl, owns_mono (he ▸ HO12.out) (by omega), HB12.out⟩

/-- isochronref10.Bytes of a valid message. -/
theorem rBytes_ok (K D C i p S T P r q a b c v e g s : Int) (w : World) (h : rgtB (baseB D C i p S) (kindB K T P r q a b c v e g s) = true) :
    Calls Try.prog 21 #[.agg #[.int .i64 K, .int .i64 D, .int .i64 C, .int .i64 i, .int .i64 p, .int .i64 S, .int .i64 T, .int .i64 P, .int .i64 r, .int .i64 q, .int .i64 a, .int .i64 b, .int .i64 c, .int .i64 v, .int .i64 e, .int .i64 g, .int .i64 s]] w fun e1 w' => ∃ u, e1 = .returned u ∧ w'.ownsRow w.heap.size 5 1 u (encM K D C i p S T P r q a b c v e g s).length (bys (encM K D C i p S T P r q a b c v e g s)) ∧ Below w.heap.size w w' := by
  rcases kind_of K D C i p S T P r q a b c v e g s h with rfl | rfl | rfl | rfl | rfl | rfl
  · exact rBytes_0 D C i p S T P r q a b c v e g s w
  · exact rBytes_2 D C i p S T P r q a b c v e g s w
  · exact rBytes_3 D C i p S T P r q a b c v e g s w
  · exact rBytes_10 D C i p S T P r q a b c v e g s w
  · exact rBytes_8 D C i p S T P r q a b c v e g s w
  · exact rBytes_11 D C i p S T P r q a b c v e g s w

end Go.Proofs.Ytecengclcaodeaa
