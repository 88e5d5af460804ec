/-
  ptp.Decode of any bytes. No conditions.
-/
import Derived.Test.YtecengclcaodeaaEncE
import Derived.Test.YtecengclcaodeaaDecR
namespace Go.Proofs.Ytecengclcaodeaa
open Go.RowKit Go.Lib Plain

/-- The codec's numbers behind the reading of all fields of a kind. -/
def decM (K : Int) (L : List Int) : List Int := rdF L (fldsK K) 22 (rdF L hdrF 0 [0, 0, 0, 0, 0, 0, 0, 0, 0, 0, 0, 0, 0, 0, 0, 0, 0, 0])
theorem decM_len (K : Int) (L : List Int) : (decM K L).length = 18 := by simp [decM, rdF_len]
/-- They make a valid message, of the length at hand. -/
def okM : List Int → Int → Bool
  | [m0, m1, m2, m3, m4, m5, m6, m7, m8, m9, m10, m11, m12, m13, m14, m15, m16, m17], n => decide (m17 = n) && rgtB (baseB m1 m2 m3 m4 m5) (kindB m0 m6 m7 m8 m9 m10 m11 m12 m13 m14 m15 m16)
  | _, _ => false
def decL (K : Int) (L : List Int) : List Int := if okM (decM K L) L.length = true then (decM K L).take 17 else [0, 0, 0, 0, 0, 0, 0, 0, 0, 0, 0, 0, 0, 0, 0, 0, 0]
def decE (K : Int) (L : List Int) : Int := if okM (decM K L) L.length = true then 0 else 5
theorem eighteen {l : List Int} (h : l.length = 18) : ∃ m0 m1 m2 m3 m4 m5 m6 m7 m8 m9 m10 m11 m12 m13 m14 m15 m16 m17 : Int, l = [m0, m1, m2, m3, m4, m5, m6, m7, m8, m9, m10, m11, m12, m13, m14, m15, m16, m17] := by
  match l, h with
  | [m0, m1, m2, m3, m4, m5, m6, m7, m8, m9, m10, m11, m12, m13, m14, m15, m16, m17], _ => exact ⟨m0, m1, m2, m3, m4, m5, m6, m7, m8, m9, m10, m11, m12, m13, m14, m15, m16, m17, rfl⟩
theorem cell_al {w : World} {a : Addr} {v : Value} (h : w.cell? a = some v) (o : Obj) : (w.alloc o).cell? a = some v := (World.cell?_alloc_lt _ _ _ (World.block_lt_of_cell? _ _ h)).trans h
theorem frozen_al {w : World} {b u : Nat} {f : Bool} (h : w.frozen? ⟨b, u, none⟩ = f) (hb : b < w.heap.size) (o : Obj) : (w.alloc o).frozen? ⟨b, u, none⟩ = f := (World.frozen?_alloc_old _ _ _ (Nat.ne_of_lt hb)).trans h
theorem hdr_sg : ∀ f ∈ hdrF, f.2.2 = true → f.2.1 = 8 ∨ f.2.1 = 4 := by unfold hdrF; decide
theorem rsp_sg : ∀ f ∈ rspF, f.2.2 = true → f.2.1 = 8 ∨ f.2.1 = 4 := by unfold rspF; decide
theorem fol_sg : ∀ f ∈ folF, f.2.2 = true → f.2.1 = 8 ∨ f.2.1 = 4 := by unfold folF; decide
theorem ann_sg : ∀ f ∈ annF, f.2.2 = true → f.2.1 = 8 ∨ f.2.1 = 4 := by unfold annF; decide
theorem z17_holds (w : World) (o : List Value) (t : TypeId) : Holds ((w.alloc (.cells o.toArray t)).alloc (.cells (([0, 0, 0, 0, 0, 0, 0, 0, 0, 0, 0, 0, 0, 0, 0, 0, 0] : List Int).map (Value.int .i64)).toArray 27)) (w.heap.size + 1) (([0, 0, 0, 0, 0, 0, 0, 0, 0, 0, 0, 0, 0, 0, 0, 0, 0] : List Int).map (Value.int .i64)) := holds_alloc _ _ _ (by simp)
theorem m17_one (m0 m1 m2 m3 m4 m5 m6 m7 m8 m9 m10 m11 m12 m13 m14 m15 m16 : Int) : ∀ v ∈ ([m0, m1, m2, m3, m4, m5, m6, m7, m8, m9, m10, m11, m12, m13, m14, m15, m16] : List Int).map (Value.int .i64), v.oneCell' = true := by simp [Value.oneCell']

set_option maxHeartbeats 16000000 in
set_option maxRecDepth 100000 in
theorem decode_0 (blk off cap : Nat) (L : List Int) (hL : Bytes L) (hlen : L.length = 22) (hk : L[0]? = some 0) (hcap : L.length ≤ cap) (hcl : cap ≤ 9223372036854775807) (w : World) (hl : Lies w blk off L) :
    Calls Try.prog 22 #[.slice (some ⟨blk, off, none⟩) L.length cap] w fun e1 w' => e1 = .returned (.tuple #[.agg ((decL 0 L).map (Value.int .i64)).toArray, .int .i64 (decE 0 L)]) ∧ Below w.heap.size w w' := by
  have ha := Lib.hid agg_msg
  have hs := Lib.hid size_msg
  have dw : w.cell? ⟨blk, off, none⟩ = some (.int .u8 0) := by simpa using hl 0 0 hk
  have zb : blk < w.heap.size := World.block_lt_of_cell? _ _ dw
  have HLen := Lib.hid hlen
  have HL := Lib.hid hl
  clear hl
  obtain ⟨m0, m1, m2, m3, m4, m5, m6, m7, m8, m9, m10, m11, m12, m13, m14, m15, m16, m17, hM⟩ := eighteen (decM_len 0 L)
  have HM := Lib.hid hM
  clear hM
  rw [hlen] at hcap ⊢
  clear hlen
  go_enter Try.func22, Try.ntmps22
  go_wp2_with fail
  refine (size_0 _).mono ?_
  rintro e1 w1 ⟨rfl, hb1⟩
  have c1 : w1.cell? ⟨w.heap.size, 0, none⟩ = some (.slice (some ⟨blk, off, none⟩) 22 cap) := below_keep hb1 (by simp [go_sem])
  have HZ1 := Lib.hid ((z17_holds w [.slice (some ⟨blk, off, none⟩) 22 cap] 44).keep hb1)
  have FZ1 := Lib.hid (show ∀ u, w1.frozen? ⟨w.heap.size + 1, u, none⟩ = false from fun u => by rw [(bcell hb1).2 _ _ (by simp)]; exact frozen_new _ _ _ _ (by simp))
  have H1 := Lib.hid (below_step (below_alloc (below_alloc (Below.refl _ _) _) _) hb1)
  have z1 : w.heap.size + 1 < w1.heap.size := World.block_lt_of_cell? _ _ (HZ1.out 0 _ rfl)
  have zb1 : blk < w1.heap.size := by omega
  have HL1 := Lib.hid (show Lies w1 blk off L from fun j x hx => (H1.out.cell zb).trans (HL.out j x hx))
  clear hb1 dw
  go_wp2_with fail
  refine (header_any _ _).mono ?_
  rintro e1 w2 ⟨bf, hb, rfl, hH, hB⟩
  have c2 : w2.cell? ⟨w.heap.size, 0, none⟩ = some (.slice (some ⟨blk, off, none⟩) 22 cap) := below_keep hB (cell_al (cell_al c1 _) _)
  have p2 : w2.cell? ⟨w1.heap.size + 1, 0, none⟩ = some (.int .i64 0) := below_keep hB (by simp [go_sem])
  have fp2 : w2.frozen? ⟨w1.heap.size + 1, 0, none⟩ = false := by rw [(bcell hB).2 _ _ (by simp)]; simp [go_sem]
  have fc2 : ∀ u, w2.frozen? ⟨w1.heap.size, u, none⟩ = false := fun u => by rw [(bcell hB).2 _ _ (by simp; omega)]; simp [go_sem]
  have HC2 := Lib.hid (((holds_alloc w1 (([0, 0, 0, 0, 0, 0, 0, 0, 0, 0, 0, 0, 0, 0, 0, 0, 0, 0] : List Int).map (Value.int .i64)) 70 rfl).alloc (by simp) _).keep hB)
  have HZ2 := Lib.hid (((HZ1.out.alloc z1 _).alloc (by simp; omega) _).keep hB)
  have FZ2 := Lib.hid (show ∀ u, w2.frozen? ⟨w.heap.size + 1, u, none⟩ = false from fun u => ((bcell hB).2 _ _ (by simp; omega)).trans (frozen_al (frozen_al (FZ1.out u) z1 _) (by simp; omega) _))
  have HL2 := Lib.hid (show Lies w2 blk off L from fun j x hx => below_keep hB (cell_al (cell_al (HL1.out j x hx) _) _))
  have H2 := Lib.hid (below_step (below_alloc (below_alloc H1.out _) _) hB)
  have z2 : w1.heap.size + 1 < w2.heap.size := World.block_lt_of_cell? _ _ p2
  have zf : bf < w2.heap.size := World.block_lt_of_cell? _ _ (hH 0 _ rfl)
  have HH := Lib.hid hH
  simp at hb
  clear hH hB c1 HZ1 FZ1 H1 HL1
  go_wp2_with fail
  rw [← HLen.out] at c2 hcap
  refine (visit_reads w.heap.size (w1.heap.size + 1) bf w1.heap.size blk off cap 0 hdrF hdr_fine hdr_sg (by decide) L hL [0, 0, 0, 0, 0, 0, 0, 0, 0, 0, 0, 0, 0, 0, 0, 0, 0, 0] (by unfold hdrF; simp) w2 c2 hcap hcl p2 fp2 HC2.out fc2 (by omega) HL2.out (by have := HLen.out; have h22 : totN hdrF = 22 := rfl; omega) (by omega) (by omega) (by omega) (by omega) (by omega) (by omega) HH.out zf (by omega) (by omega)).mono ?_
  rintro e1 w3 ⟨rfl, hc3, p3, fp3, fc3, b3⟩
  have z3 := b3.size
  have c3 : w3.cell? ⟨w.heap.size, 0, none⟩ = some (.slice (some ⟨blk, off, none⟩) L.length cap) := (b3.cell (by show w.heap.size < _; omega) (by show ¬ (w.heap.size = _ ∨ w.heap.size = _); omega)).trans c2
  have HC3 := Lib.hid hc3
  have HZ3 := Lib.hid (b3.holds HZ2.out (by omega) (by omega))
  have FZ3 := Lib.hid (show ∀ u, w3.frozen? ⟨w.heap.size + 1, u, none⟩ = false from fun u => (b3.frozen (by show w.heap.size + 1 < _; omega) (by show ¬ (w.heap.size + 1 = _ ∨ w.heap.size + 1 = _); omega)).trans (FZ2.out u))
  have HL3 := Lib.hid (HL2.out.but b3 (by omega) (by omega))
  have H3 := Lib.hid (H2.out.trans (b3.below (B := w.heap.size) (by omega) (by rintro k (rfl | rfl) <;> omega)))
  clear hc3 b3 c2 p2 fp2 fc2 HC2 HZ2 FZ2 HL2 H2 HH zf hb
  go_wp2_with fail
  refine (kinds_any _).mono ?_
  rintro e1 w9 ⟨rfl, rfl⟩
  have hlk := look_0 (W := w3.alloc (.map kindsM 6)) (MapKept.heap_alloc w3 _).1 false
  simp only [Bool.false_eq_true, ↓reduceIte] at hlk
  go_wp2_with fail
  refine (plain_any _ _).mono ?_
  rintro e1 w10 ⟨rfl, rfl⟩
  go_wp2_with fail
  refine (visit_none _ _).mono ?_
  rintro e1 w11 ⟨rfl, rfl⟩
  clear hlk
  obtain ⟨w5, hw5⟩ : ∃ w5, w5 = w3.alloc (.map kindsM 6) := ⟨_, rfl⟩
  have HC5 := Lib.hid (show Holds w5 w1.heap.size ([m0, m1, m2, m3, m4, m5, m6, m7, m8, m9, m10, m11, m12, m13, m14, m15, m16, m17].map (Value.int .i64)) by subst hw5; rw [← HM.out]; exact HC3.out.alloc (by omega) _)
  have HZ5 := Lib.hid (show Holds w5 (w.heap.size + 1) (([0, 0, 0, 0, 0, 0, 0, 0, 0, 0, 0, 0, 0, 0, 0, 0, 0] : List Int).map (Value.int .i64)) by subst hw5; exact HZ3.out.alloc (by omega) _)
  have FZ5 := Lib.hid (show ∀ u, w5.frozen? ⟨w.heap.size + 1, u, none⟩ = false by subst hw5; exact fun u => frozen_al (FZ3.out u) (by omega) _)
  have H5 := Lib.hid (show Below w.heap.size w w5 by subst hw5; exact below_alloc H3.out _)
  have z5 : w1.heap.size + 1 < w5.heap.size := by subst hw5; simp; omega
  rw [← hw5]
  clear hw5 c3 p3 fp3 fc3 HC3 HZ3 FZ3 HL3 H3
  have g17 : w5.cell? ⟨w1.heap.size, 17, none⟩ = some (.int .i64 m17) := HC5.out 17 _ rfl
  have HQ5 := Lib.hid (show Holds w5 w1.heap.size (mMsg m0 m1 m2 m3 m4 m5 m6 m7 m8 m9 m10 m11 m12 m13 m14 m15 m16) from fun j v hv => HC5.out j v (by
    have hj : j < 17 := (List.getElem?_eq_some_iff.1 hv).1
    have := List.getElem?_append_left (l₁ := mMsg m0 m1 m2 m3 m4 m5 m6 m7 m8 m9 m10 m11 m12 m13 m14 m15 m16) (l₂ := [.int .i64 m17]) (show j < (mMsg m0 m1 m2 m3 m4 m5 m6 m7 m8 m9 m10 m11 m12 m13 m14 m15 m16).length from hj)
    rw [← this] at hv
    exact hv))
  by_cases h17 : m17 = 22
  · subst h17
    go_wp2_with (((with_reducible refine at_load 27 (.tmp 51) ?_); refine wpList_load_wanted (by rfl) (.tmp 51) 27 rfl w1.heap.size 0 (mMsg m0 m1 m2 m3 m4 m5 m6 m7 m8 m9 m10 m11 m12 m13 m14 m15 m16) rfl ha.out hs.out HQ5.out ?_))
    refine (ptpCheck_any m0 m1 m2 m3 m4 m5 m6 m7 m8 m9 m10 m11 m12 m13 m14 m15 m16 _).mono ?_
    cases hr : rgtB (baseB m1 m2 m3 m4 m5) (kindB m0 m6 m7 m8 m9 m10 m11 m12 m13 m14 m15 m16)
    · rw [show chkB (baseB m1 m2 m3 m4 m5) (kindB m0 m6 m7 m8 m9 m10 m11 m12 m13 m14 m15 m16) = 200 by rw [chk_of_rgt, hr]; rfl]
      rintro e1 w6 ⟨rfl, hb6⟩
      have HZ6 := Lib.hid (HZ5.out.keep hb6)
      have FZ6 := Lib.hid (show ∀ u, w6.frozen? ⟨w.heap.size + 1, u, none⟩ = false from fun u => ((bcell hb6).2 _ _ (by omega)).trans (FZ5.out u))
      have H6 := Lib.hid (below_step H5.out hb6)
      have HR := Lib.hid hr
      clear hb6 hr HZ5 FZ5 H5 g17 HQ5 HC5
      go_wp2_with (((with_reducible refine at_store 27 (.tmp 2) (.tmp 56) ?_); refine wpList_store_whole rfl (.tmp 2) (.tmp 56) 27 rfl (w.heap.size + 1) 0 (([0, 0, 0, 0, 0, 0, 0, 0, 0, 0, 0, 0, 0, 0, 0, 0, 0] : List Int).map (Value.int .i64)) rfl rfl hs.out (fun j hj => HZ6.out.some j hj) (fun j _ => FZ6.out (0 + j)) (m17_one 0 0 0 0 0 0 0 0 0 0 0 0 0 0 0 0 0) ?_; intro w7 hw7))
      have hL2 := run_loadVar_whole (P := Try.prog) (w := w7) 27 (w.heap.size + 1) 0 (([0, 0, 0, 0, 0, 0, 0, 0, 0, 0, 0, 0, 0, 0, 0, 0, 0] : List Int).map (Value.int .i64)) ha.out hs.out hw7.here
      have hok : okM (decM 0 L) L.length = false := by
        rw [HM.out, HLen.out]
        show (decide ((22 : Int) = 22) && rgtB (baseB m1 m2 m3 m4 m5) (kindB m0 m6 m7 m8 m9 m10 m11 m12 m13 m14 m15 m16)) = false
        rw [HR.out, Bool.and_false]
      refine bodyPost_ret (v := .tuple #[.agg (([0, 0, 0, 0, 0, 0, 0, 0, 0, 0, 0, 0, 0, 0, 0, 0, 0] : List Int).map (Value.int .i64)).toArray, .int .i64 5]) (results_cell_tmp 2 3 27 Try.results22 (w.heap.size + 1) 0 _ _ rfl hL2 rfl) rfl ⟨?_, hw7.below _ _ (by omega) H6.out⟩
      rw [show decL 0 L = [0, 0, 0, 0, 0, 0, 0, 0, 0, 0, 0, 0, 0, 0, 0, 0, 0] by unfold decL; rw [hok]; rfl, show decE 0 L = 5 by unfold decE; rw [hok]; rfl]
    · rw [show chkB (baseB m1 m2 m3 m4 m5) (kindB m0 m6 m7 m8 m9 m10 m11 m12 m13 m14 m15 m16) = 0 by rw [chk_of_rgt, hr]; rfl]
      rintro e1 w6 ⟨rfl, hb6⟩
      have HZ6 := Lib.hid (HZ5.out.keep hb6)
      have FZ6 := Lib.hid (show ∀ u, w6.frozen? ⟨w.heap.size + 1, u, none⟩ = false from fun u => ((bcell hb6).2 _ _ (by omega)).trans (FZ5.out u))
      have HQ6 := Lib.hid (HQ5.out.keep hb6)
      have H6 := Lib.hid (below_step H5.out hb6)
      have HR := Lib.hid hr
      clear hb6 hr HZ5 FZ5 H5 g17 HQ5 HC5
      go_wp2_with (first | ((with_reducible refine at_load 27 (.tmp 59) ?_); refine wpList_load_whole rfl (.tmp 59) 27 rfl w1.heap.size 0 (mMsg m0 m1 m2 m3 m4 m5 m6 m7 m8 m9 m10 m11 m12 m13 m14 m15 m16) rfl ha.out hs.out HQ6.out ?_) | ((with_reducible refine at_store 27 (.tmp 2) (.tmp 60) ?_); refine wpList_store_whole rfl (.tmp 2) (.tmp 60) 27 rfl (w.heap.size + 1) 0 (mMsg m0 m1 m2 m3 m4 m5 m6 m7 m8 m9 m10 m11 m12 m13 m14 m15 m16) rfl rfl hs.out (fun j hj => HZ6.out.some j (by simpa [mMsg] using hj)) (fun j _ => FZ6.out (0 + j)) (m17_one m0 m1 m2 m3 m4 m5 m6 m7 m8 m9 m10 m11 m12 m13 m14 m15 m16) ?_; intro w7 hw7))
      have hL2 := run_loadVar_whole (P := Try.prog) (w := w7) 27 (w.heap.size + 1) 0 (mMsg m0 m1 m2 m3 m4 m5 m6 m7 m8 m9 m10 m11 m12 m13 m14 m15 m16) ha.out hs.out hw7.here
      have hok : okM (decM 0 L) L.length = true := by
        rw [HM.out, HLen.out]
        show (decide ((22 : Int) = 22) && rgtB (baseB m1 m2 m3 m4 m5) (kindB m0 m6 m7 m8 m9 m10 m11 m12 m13 m14 m15 m16)) = true
        rw [HR.out]; rfl
      refine bodyPost_ret (v := .tuple #[.agg (mMsg m0 m1 m2 m3 m4 m5 m6 m7 m8 m9 m10 m11 m12 m13 m14 m15 m16).toArray, .int .i64 0]) (results_cell_tmp 2 3 27 Try.results22 (w.heap.size + 1) 0 _ _ rfl hL2 rfl) rfl ⟨?_, hw7.below _ _ (by omega) H6.out⟩
      rw [show decL 0 L = [m0, m1, m2, m3, m4, m5, m6, m7, m8, m9, m10, m11, m12, m13, m14, m15, m16] by unfold decL; rw [if_pos hok, HM.out]; rfl, show decE 0 L = 0 by unfold decE; rw [if_pos hok]]
      rfl
  · have H17 := Lib.hid h17
    go_wp2_with (((with_reducible refine at_store 27 (.tmp 2) (.tmp 56) ?_); refine wpList_store_whole rfl (.tmp 2) (.tmp 56) 27 rfl (w.heap.size + 1) 0 (([0, 0, 0, 0, 0, 0, 0, 0, 0, 0, 0, 0, 0, 0, 0, 0, 0] : List Int).map (Value.int .i64)) rfl rfl hs.out (fun j hj => HZ5.out.some j hj) (fun j _ => FZ5.out (0 + j)) (m17_one 0 0 0 0 0 0 0 0 0 0 0 0 0 0 0 0 0) ?_; intro w7 hw7))
    have hL2 := run_loadVar_whole (P := Try.prog) (w := w7) 27 (w.heap.size + 1) 0 (([0, 0, 0, 0, 0, 0, 0, 0, 0, 0, 0, 0, 0, 0, 0, 0, 0] : List Int).map (Value.int .i64)) ha.out hs.out hw7.here
    have hok : okM (decM 0 L) L.length = false := by
      rw [HM.out, HLen.out]
      show (decide (m17 = (22 : Int)) && rgtB (baseB m1 m2 m3 m4 m5) (kindB m0 m6 m7 m8 m9 m10 m11 m12 m13 m14 m15 m16)) = false
      rw [decide_eq_false H17.out, Bool.false_and]
    refine bodyPost_ret (v := .tuple #[.agg (([0, 0, 0, 0, 0, 0, 0, 0, 0, 0, 0, 0, 0, 0, 0, 0, 0] : List Int).map (Value.int .i64)).toArray, .int .i64 5]) (results_cell_tmp 2 3 27 Try.results22 (w.heap.size + 1) 0 _ _ rfl hL2 rfl) rfl ⟨?_, hw7.below _ _ (by omega) H5.out⟩
    rw [show decL 0 L = [0, 0, 0, 0, 0, 0, 0, 0, 0, 0, 0, 0, 0, 0, 0, 0, 0] by unfold decL; rw [hok]; rfl, show decE 0 L = 5 by unfold decE; rw [hok]; rfl]

set_option maxHeartbeats 16000000 in
set_option maxRecDepth 100000 in
theorem decode_2 (blk off cap : Nat) (L : List Int) (hL : Bytes L) (hlen : L.length = 22) (hk : L[0]? = some 2) (hcap : L.length ≤ cap) (hcl : cap ≤ 9223372036854775807) (w : World) (hl : Lies w blk off L) :
    Calls Try.prog 22 #[.slice (some ⟨blk, off, none⟩) L.length cap] w fun e1 w' => e1 = .returned (.tuple #[.agg ((decL 2 L).map (Value.int .i64)).toArray, .int .i64 (decE 2 L)]) ∧ Below w.heap.size w w' := by
  have ha := Lib.hid agg_msg
  have hs := Lib.hid size_msg
  have dw : w.cell? ⟨blk, off, none⟩ = some (.int .u8 2) := by simpa using hl 0 2 hk
  have zb : blk < w.heap.size := World.block_lt_of_cell? _ _ dw
  have HLen := Lib.hid hlen
  have HL := Lib.hid hl
  clear hl
  obtain ⟨m0, m1, m2, m3, m4, m5, m6, m7, m8, m9, m10, m11, m12, m13, m14, m15, m16, m17, hM⟩ := eighteen (decM_len 2 L)
  have HM := Lib.hid hM
  clear hM
  rw [hlen] at hcap ⊢
  clear hlen
  go_enter Try.func22, Try.ntmps22
  go_wp2_with fail
  refine (size_2 _).mono ?_
  rintro e1 w1 ⟨rfl, hb1⟩
  have c1 : w1.cell? ⟨w.heap.size, 0, none⟩ = some (.slice (some ⟨blk, off, none⟩) 22 cap) := below_keep hb1 (by simp [go_sem])
  have HZ1 := Lib.hid ((z17_holds w [.slice (some ⟨blk, off, none⟩) 22 cap] 44).keep hb1)
  have FZ1 := Lib.hid (show ∀ u, w1.frozen? ⟨w.heap.size + 1, u, none⟩ = false from fun u => by rw [(bcell hb1).2 _ _ (by simp)]; exact frozen_new _ _ _ _ (by simp))
  have H1 := Lib.hid (below_step (below_alloc (below_alloc (Below.refl _ _) _) _) hb1)
  have z1 : w.heap.size + 1 < w1.heap.size := World.block_lt_of_cell? _ _ (HZ1.out 0 _ rfl)
  have zb1 : blk < w1.heap.size := by omega
  have HL1 := Lib.hid (show Lies w1 blk off L from fun j x hx => (H1.out.cell zb).trans (HL.out j x hx))
  clear hb1 dw
  go_wp2_with fail
  refine (header_any _ _).mono ?_
  rintro e1 w2 ⟨bf, hb, rfl, hH, hB⟩
  have c2 : w2.cell? ⟨w.heap.size, 0, none⟩ = some (.slice (some ⟨blk, off, none⟩) 22 cap) := below_keep hB (cell_al (cell_al c1 _) _)
  have p2 : w2.cell? ⟨w1.heap.size + 1, 0, none⟩ = some (.int .i64 0) := below_keep hB (by simp [go_sem])
  have fp2 : w2.frozen? ⟨w1.heap.size + 1, 0, none⟩ = false := by rw [(bcell hB).2 _ _ (by simp)]; simp [go_sem]
  have fc2 : ∀ u, w2.frozen? ⟨w1.heap.size, u, none⟩ = false := fun u => by rw [(bcell hB).2 _ _ (by simp; omega)]; simp [go_sem]
  have HC2 := Lib.hid (((holds_alloc w1 (([0, 0, 0, 0, 0, 0, 0, 0, 0, 0, 0, 0, 0, 0, 0, 0, 0, 0] : List Int).map (Value.int .i64)) 70 rfl).alloc (by simp) _).keep hB)
  have HZ2 := Lib.hid (((HZ1.out.alloc z1 _).alloc (by simp; omega) _).keep hB)
  have FZ2 := Lib.hid (show ∀ u, w2.frozen? ⟨w.heap.size + 1, u, none⟩ = false from fun u => ((bcell hB).2 _ _ (by simp; omega)).trans (frozen_al (frozen_al (FZ1.out u) z1 _) (by simp; omega) _))
  have HL2 := Lib.hid (show Lies w2 blk off L from fun j x hx => below_keep hB (cell_al (cell_al (HL1.out j x hx) _) _))
  have H2 := Lib.hid (below_step (below_alloc (below_alloc H1.out _) _) hB)
  have z2 : w1.heap.size + 1 < w2.heap.size := World.block_lt_of_cell? _ _ p2
  have zf : bf < w2.heap.size := World.block_lt_of_cell? _ _ (hH 0 _ rfl)
  have HH := Lib.hid hH
  simp at hb
  clear hH hB c1 HZ1 FZ1 H1 HL1
  go_wp2_with fail
  rw [← HLen.out] at c2 hcap
  refine (visit_reads w.heap.size (w1.heap.size + 1) bf w1.heap.size blk off cap 0 hdrF hdr_fine hdr_sg (by decide) L hL [0, 0, 0, 0, 0, 0, 0, 0, 0, 0, 0, 0, 0, 0, 0, 0, 0, 0] (by unfold hdrF; simp) w2 c2 hcap hcl p2 fp2 HC2.out fc2 (by omega) HL2.out (by have := HLen.out; have h22 : totN hdrF = 22 := rfl; omega) (by omega) (by omega) (by omega) (by omega) (by omega) (by omega) HH.out zf (by omega) (by omega)).mono ?_
  rintro e1 w3 ⟨rfl, hc3, p3, fp3, fc3, b3⟩
  have z3 := b3.size
  have c3 : w3.cell? ⟨w.heap.size, 0, none⟩ = some (.slice (some ⟨blk, off, none⟩) L.length cap) := (b3.cell (by show w.heap.size < _; omega) (by show ¬ (w.heap.size = _ ∨ w.heap.size = _); omega)).trans c2
  have HC3 := Lib.hid hc3
  have HZ3 := Lib.hid (b3.holds HZ2.out (by omega) (by omega))
  have FZ3 := Lib.hid (show ∀ u, w3.frozen? ⟨w.heap.size + 1, u, none⟩ = false from fun u => (b3.frozen (by show w.heap.size + 1 < _; omega) (by show ¬ (w.heap.size + 1 = _ ∨ w.heap.size + 1 = _); omega)).trans (FZ2.out u))
  have HL3 := Lib.hid (HL2.out.but b3 (by omega) (by omega))
  have H3 := Lib.hid (H2.out.trans (b3.below (B := w.heap.size) (by omega) (by rintro k (rfl | rfl) <;> omega)))
  clear hc3 b3 c2 p2 fp2 fc2 HC2 HZ2 FZ2 HL2 H2 HH zf hb
  go_wp2_with fail
  refine (kinds_any _).mono ?_
  rintro e1 w9 ⟨rfl, rfl⟩
  have hlk := look_2 (W := w3.alloc (.map kindsM 6)) (MapKept.heap_alloc w3 _).1 false
  simp only [Bool.false_eq_true, ↓reduceIte] at hlk
  go_wp2_with fail
  refine (plain_any _ _).mono ?_
  rintro e1 w10 ⟨rfl, rfl⟩
  go_wp2_with fail
  refine (visit_none _ _).mono ?_
  rintro e1 w11 ⟨rfl, rfl⟩
  clear hlk
  obtain ⟨w5, hw5⟩ : ∃ w5, w5 = w3.alloc (.map kindsM 6) := ⟨_, rfl⟩
  have HC5 := Lib.hid (show Holds w5 w1.heap.size ([m0, m1, m2, m3, m4, m5, m6, m7, m8, m9, m10, m11, m12, m13, m14, m15, m16, m17].map (Value.int .i64)) by subst hw5; rw [← HM.out]; exact HC3.out.alloc (by omega) _)
  have HZ5 := Lib.hid (show Holds w5 (w.heap.size + 1) (([0, 0, 0, 0, 0, 0, 0, 0, 0, 0, 0, 0, 0, 0, 0, 0, 0] : List Int).map (Value.int .i64)) by subst hw5; exact HZ3.out.alloc (by omega) _)
  have FZ5 := Lib.hid (show ∀ u, w5.frozen? ⟨w.heap.size + 1, u, none⟩ = false by subst hw5; exact fun u => frozen_al (FZ3.out u) (by omega) _)
  have H5 := Lib.hid (show Below w.heap.size w w5 by subst hw5; exact below_alloc H3.out _)
  have z5 : w1.heap.size + 1 < w5.heap.size := by subst hw5; simp; omega
  rw [← hw5]
  clear hw5 c3 p3 fp3 fc3 HC3 HZ3 FZ3 HL3 H3
  have g17 : w5.cell? ⟨w1.heap.size, 17, none⟩ = some (.int .i64 m17) := HC5.out 17 _ rfl
  have HQ5 := Lib.hid (show Holds w5 w1.heap.size (mMsg m0 m1 m2 m3 m4 m5 m6 m7 m8 m9 m10 m11 m12 m13 m14 m15 m16) from fun j v hv => HC5.out j v (by
    have hj : j < 17 := (List.getElem?_eq_some_iff.1 hv).1
    have := List.getElem?_append_left (l₁ := mMsg m0 m1 m2 m3 m4 m5 m6 m7 m8 m9 m10 m11 m12 m13 m14 m15 m16) (l₂ := [.int .i64 m17]) (show j < (mMsg m0 m1 m2 m3 m4 m5 m6 m7 m8 m9 m10 m11 m12 m13 m14 m15 m16).length from hj)
    rw [← this] at hv
    exact hv))
  by_cases h17 : m17 = 22
  · subst h17
    go_wp2_with (((with_reducible refine at_load 27 (.tmp 51) ?_); refine wpList_load_wanted (by rfl) (.tmp 51) 27 rfl w1.heap.size 0 (mMsg m0 m1 m2 m3 m4 m5 m6 m7 m8 m9 m10 m11 m12 m13 m14 m15 m16) rfl ha.out hs.out HQ5.out ?_))
    refine (ptpCheck_any m0 m1 m2 m3 m4 m5 m6 m7 m8 m9 m10 m11 m12 m13 m14 m15 m16 _).mono ?_
    cases hr : rgtB (baseB m1 m2 m3 m4 m5) (kindB m0 m6 m7 m8 m9 m10 m11 m12 m13 m14 m15 m16)
    · rw [show chkB (baseB m1 m2 m3 m4 m5) (kindB m0 m6 m7 m8 m9 m10 m11 m12 m13 m14 m15 m16) = 200 by rw [chk_of_rgt, hr]; rfl]
      rintro e1 w6 ⟨rfl, hb6⟩
      have HZ6 := Lib.hid (HZ5.out.keep hb6)
      have FZ6 := Lib.hid (show ∀ u, w6.frozen? ⟨w.heap.size + 1, u, none⟩ = false from fun u => ((bcell hb6).2 _ _ (by omega)).trans (FZ5.out u))
      have H6 := Lib.hid (below_step H5.out hb6)
      have HR := Lib.hid hr
      clear hb6 hr HZ5 FZ5 H5 g17 HQ5 HC5
      go_wp2_with (((with_reducible refine at_store 27 (.tmp 2) (.tmp 56) ?_); refine wpList_store_whole rfl (.tmp 2) (.tmp 56) 27 rfl (w.heap.size + 1) 0 (([0, 0, 0, 0, 0, 0, 0, 0, 0, 0, 0, 0, 0, 0, 0, 0, 0] : List Int).map (Value.int .i64)) rfl rfl hs.out (fun j hj => HZ6.out.some j hj) (fun j _ => FZ6.out (0 + j)) (m17_one 0 0 0 0 0 0 0 0 0 0 0 0 0 0 0 0 0) ?_; intro w7 hw7))
      have hL2 := run_loadVar_whole (P := Try.prog) (w := w7) 27 (w.heap.size + 1) 0 (([0, 0, 0, 0, 0, 0, 0, 0, 0, 0, 0, 0, 0, 0, 0, 0, 0] : List Int).map (Value.int .i64)) ha.out hs.out hw7.here
      have hok : okM (decM 2 L) L.length = false := by
        rw [HM.out, HLen.out]
        show (decide ((22 : Int) = 22) && rgtB (baseB m1 m2 m3 m4 m5) (kindB m0 m6 m7 m8 m9 m10 m11 m12 m13 m14 m15 m16)) = false
        rw [HR.out, Bool.and_false]
      refine bodyPost_ret (v := .tuple #[.agg (([0, 0, 0, 0, 0, 0, 0, 0, 0, 0, 0, 0, 0, 0, 0, 0, 0] : List Int).map (Value.int .i64)).toArray, .int .i64 5]) (results_cell_tmp 2 3 27 Try.results22 (w.heap.size + 1) 0 _ _ rfl hL2 rfl) rfl ⟨?_, hw7.below _ _ (by omega) H6.out⟩
      rw [show decL 2 L = [0, 0, 0, 0, 0, 0, 0, 0, 0, 0, 0, 0, 0, 0, 0, 0, 0] by unfold decL; rw [hok]; rfl, show decE 2 L = 5 by unfold decE; rw [hok]; rfl]
    · rw [show chkB (baseB m1 m2 m3 m4 m5) (kindB m0 m6 m7 m8 m9 m10 m11 m12 m13 m14 m15 m16) = 0 by rw [chk_of_rgt, hr]; rfl]
      rintro e1 w6 ⟨rfl, hb6⟩
      have HZ6 := Lib.hid (HZ5.out.keep hb6)
      have FZ6 := Lib.hid (show ∀ u, w6.frozen? ⟨w.heap.size + 1, u, none⟩ = false from fun u => ((bcell hb6).2 _ _ (by omega)).trans (FZ5.out u))
      have HQ6 := Lib.hid (HQ5.out.keep hb6)
      have H6 := Lib.hid (below_step H5.out hb6)
      have HR := Lib.hid hr
      clear hb6 hr HZ5 FZ5 H5 g17 HQ5 HC5
      go_wp2_with (first | ((with_reducible refine at_load 27 (.tmp 59) ?_); refine wpList_load_whole rfl (.tmp 59) 27 rfl w1.heap.size 0 (mMsg m0 m1 m2 m3 m4 m5 m6 m7 m8 m9 m10 m11 m12 m13 m14 m15 m16) rfl ha.out hs.out HQ6.out ?_) | ((with_reducible refine at_store 27 (.tmp 2) (.tmp 60) ?_); refine wpList_store_whole rfl (.tmp 2) (.tmp 60) 27 rfl (w.heap.size + 1) 0 (mMsg m0 m1 m2 m3 m4 m5 m6 m7 m8 m9 m10 m11 m12 m13 m14 m15 m16) rfl rfl hs.out (fun j hj => HZ6.out.some j (by simpa [mMsg] using hj)) (fun j _ => FZ6.out (0 + j)) (m17_one m0 m1 m2 m3 m4 m5 m6 m7 m8 m9 m10 m11 m12 m13 m14 m15 m16) ?_; intro w7 hw7))
      have hL2 := run_loadVar_whole (P := Try.prog) (w := w7) 27 (w.heap.size + 1) 0 (mMsg m0 m1 m2 m3 m4 m5 m6 m7 m8 m9 m10 m11 m12 m13 m14 m15 m16) ha.out hs.out hw7.here
      have hok : okM (decM 2 L) L.length = true := by
        rw [HM.out, HLen.out]
        show (decide ((22 : Int) = 22) && rgtB (baseB m1 m2 m3 m4 m5) (kindB m0 m6 m7 m8 m9 m10 m11 m12 m13 m14 m15 m16)) = true
        rw [HR.out]; rfl
      refine bodyPost_ret (v := .tuple #[.agg (mMsg m0 m1 m2 m3 m4 m5 m6 m7 m8 m9 m10 m11 m12 m13 m14 m15 m16).toArray, .int .i64 0]) (results_cell_tmp 2 3 27 Try.results22 (w.heap.size + 1) 0 _ _ rfl hL2 rfl) rfl ⟨?_, hw7.below _ _ (by omega) H6.out⟩
      rw [show decL 2 L = [m0, m1, m2, m3, m4, m5, m6, m7, m8, m9, m10, m11, m12, m13, m14, m15, m16] by unfold decL; rw [if_pos hok, HM.out]; rfl, show decE 2 L = 0 by unfold decE; rw [if_pos hok]]
      rfl
  · have H17 := Lib.hid h17
    go_wp2_with (((with_reducible refine at_store 27 (.tmp 2) (.tmp 56) ?_); refine wpList_store_whole rfl (.tmp 2) (.tmp 56) 27 rfl (w.heap.size + 1) 0 (([0, 0, 0, 0, 0, 0, 0, 0, 0, 0, 0, 0, 0, 0, 0, 0, 0] : List Int).map (Value.int .i64)) rfl rfl hs.out (fun j hj => HZ5.out.some j hj) (fun j _ => FZ5.out (0 + j)) (m17_one 0 0 0 0 0 0 0 0 0 0 0 0 0 0 0 0 0) ?_; intro w7 hw7))
    have hL2 := run_loadVar_whole (P := Try.prog) (w := w7) 27 (w.heap.size + 1) 0 (([0, 0, 0, 0, 0, 0, 0, 0, 0, 0, 0, 0, 0, 0, 0, 0, 0] : List Int).map (Value.int .i64)) ha.out hs.out hw7.here
    have hok : okM (decM 2 L) L.length = false := by
      rw [HM.out, HLen.out]
      show (decide (m17 = (22 : Int)) && rgtB (baseB m1 m2 m3 m4 m5) (kindB m0 m6 m7 m8 m9 m10 m11 m12 m13 m14 m15 m16)) = false
      rw [decide_eq_false H17.out, Bool.false_and]
    refine bodyPost_ret (v := .tuple #[.agg (([0, 0, 0, 0, 0, 0, 0, 0, 0, 0, 0, 0, 0, 0, 0, 0, 0] : List Int).map (Value.int .i64)).toArray, .int .i64 5]) (results_cell_tmp 2 3 27 Try.results22 (w.heap.size + 1) 0 _ _ rfl hL2 rfl) rfl ⟨?_, hw7.below _ _ (by omega) H5.out⟩
    rw [show decL 2 L = [0, 0, 0, 0, 0, 0, 0, 0, 0, 0, 0, 0, 0, 0, 0, 0, 0] by unfold decL; rw [hok]; rfl, show decE 2 L = 5 by unfold decE; rw [hok]; rfl]

set_option maxHeartbeats 16000000 in
set_option maxRecDepth 100000 in
theorem decode_3 (blk off cap : Nat) (L : List Int) (hL : Bytes L) (hlen : L.length = 38) (hk : L[0]? = some 3) (hcap : L.length ≤ cap) (hcl : cap ≤ 9223372036854775807) (w : World) (hl : Lies w blk off L) :
    Calls Try.prog 22 #[.slice (some ⟨blk, off, none⟩) L.length cap] w fun e1 w' => e1 = .returned (.tuple #[.agg ((decL 3 L).map (Value.int .i64)).toArray, .int .i64 (decE 3 L)]) ∧ Below w.heap.size w w' := by
  have ha := Lib.hid agg_msg
  have hs := Lib.hid size_msg
  have dw : w.cell? ⟨blk, off, none⟩ = some (.int .u8 3) := by simpa using hl 0 3 hk
  have zb : blk < w.heap.size := World.block_lt_of_cell? _ _ dw
  have HLen := Lib.hid hlen
  have HL := Lib.hid hl
  clear hl
  obtain ⟨m0, m1, m2, m3, m4, m5, m6, m7, m8, m9, m10, m11, m12, m13, m14, m15, m16, m17, hM⟩ := eighteen (decM_len 3 L)
  have HM := Lib.hid hM
  clear hM
  rw [hlen] at hcap ⊢
  clear hlen
  go_enter Try.func22, Try.ntmps22
  go_wp2_with fail
  refine (size_3 _).mono ?_
  rintro e1 w1 ⟨rfl, hb1⟩
  have c1 : w1.cell? ⟨w.heap.size, 0, none⟩ = some (.slice (some ⟨blk, off, none⟩) 38 cap) := below_keep hb1 (by simp [go_sem])
  have HZ1 := Lib.hid ((z17_holds w [.slice (some ⟨blk, off, none⟩) 38 cap] 44).keep hb1)
  have FZ1 := Lib.hid (show ∀ u, w1.frozen? ⟨w.heap.size + 1, u, none⟩ = false from fun u => by rw [(bcell hb1).2 _ _ (by simp)]; exact frozen_new _ _ _ _ (by simp))
  have H1 := Lib.hid (below_step (below_alloc (below_alloc (Below.refl _ _) _) _) hb1)
  have z1 : w.heap.size + 1 < w1.heap.size := World.block_lt_of_cell? _ _ (HZ1.out 0 _ rfl)
  have zb1 : blk < w1.heap.size := by omega
  have HL1 := Lib.hid (show Lies w1 blk off L from fun j x hx => (H1.out.cell zb).trans (HL.out j x hx))
  clear hb1 dw
  go_wp2_with fail
  refine (header_any _ _).mono ?_
  rintro e1 w2 ⟨bf, hb, rfl, hH, hB⟩
  have c2 : w2.cell? ⟨w.heap.size, 0, none⟩ = some (.slice (some ⟨blk, off, none⟩) 38 cap) := below_keep hB (cell_al (cell_al c1 _) _)
  have p2 : w2.cell? ⟨w1.heap.size + 1, 0, none⟩ = some (.int .i64 0) := below_keep hB (by simp [go_sem])
  have fp2 : w2.frozen? ⟨w1.heap.size + 1, 0, none⟩ = false := by rw [(bcell hB).2 _ _ (by simp)]; simp [go_sem]
  have fc2 : ∀ u, w2.frozen? ⟨w1.heap.size, u, none⟩ = false := fun u => by rw [(bcell hB).2 _ _ (by simp; omega)]; simp [go_sem]
  have HC2 := Lib.hid (((holds_alloc w1 (([0, 0, 0, 0, 0, 0, 0, 0, 0, 0, 0, 0, 0, 0, 0, 0, 0, 0] : List Int).map (Value.int .i64)) 70 rfl).alloc (by simp) _).keep hB)
  have HZ2 := Lib.hid (((HZ1.out.alloc z1 _).alloc (by simp; omega) _).keep hB)
  have FZ2 := Lib.hid (show ∀ u, w2.frozen? ⟨w.heap.size + 1, u, none⟩ = false from fun u => ((bcell hB).2 _ _ (by simp; omega)).trans (frozen_al (frozen_al (FZ1.out u) z1 _) (by simp; omega) _))
  have HL2 := Lib.hid (show Lies w2 blk off L from fun j x hx => below_keep hB (cell_al (cell_al (HL1.out j x hx) _) _))
  have H2 := Lib.hid (below_step (below_alloc (below_alloc H1.out _) _) hB)
  have z2 : w1.heap.size + 1 < w2.heap.size := World.block_lt_of_cell? _ _ p2
  have zf : bf < w2.heap.size := World.block_lt_of_cell? _ _ (hH 0 _ rfl)
  have HH := Lib.hid hH
  simp at hb
  clear hH hB c1 HZ1 FZ1 H1 HL1
  go_wp2_with fail
  rw [← HLen.out] at c2 hcap
  refine (visit_reads w.heap.size (w1.heap.size + 1) bf w1.heap.size blk off cap 0 hdrF hdr_fine hdr_sg (by decide) L hL [0, 0, 0, 0, 0, 0, 0, 0, 0, 0, 0, 0, 0, 0, 0, 0, 0, 0] (by unfold hdrF; simp) w2 c2 hcap hcl p2 fp2 HC2.out fc2 (by omega) HL2.out (by have := HLen.out; have h22 : totN hdrF = 22 := rfl; omega) (by omega) (by omega) (by omega) (by omega) (by omega) (by omega) HH.out zf (by omega) (by omega)).mono ?_
  rintro e1 w3 ⟨rfl, hc3, p3, fp3, fc3, b3⟩
  have z3 := b3.size
  have c3 : w3.cell? ⟨w.heap.size, 0, none⟩ = some (.slice (some ⟨blk, off, none⟩) L.length cap) := (b3.cell (by show w.heap.size < _; omega) (by show ¬ (w.heap.size = _ ∨ w.heap.size = _); omega)).trans c2
  have HC3 := Lib.hid hc3
  have HZ3 := Lib.hid (b3.holds HZ2.out (by omega) (by omega))
  have FZ3 := Lib.hid (show ∀ u, w3.frozen? ⟨w.heap.size + 1, u, none⟩ = false from fun u => (b3.frozen (by show w.heap.size + 1 < _; omega) (by show ¬ (w.heap.size + 1 = _ ∨ w.heap.size + 1 = _); omega)).trans (FZ2.out u))
  have HL3 := Lib.hid (HL2.out.but b3 (by omega) (by omega))
  have H3 := Lib.hid (H2.out.trans (b3.below (B := w.heap.size) (by omega) (by rintro k (rfl | rfl) <;> omega)))
  clear hc3 b3 c2 p2 fp2 fc2 HC2 HZ2 FZ2 HL2 H2 HH zf hb
  go_wp2_with fail
  refine (kinds_any _).mono ?_
  rintro e1 w9 ⟨rfl, rfl⟩
  have hlk := look_3 (W := w3.alloc (.map kindsM 6)) (MapKept.heap_alloc w3 _).1 false
  simp only [Bool.false_eq_true, ↓reduceIte] at hlk
  go_wp2_with fail
  refine (response_any _ _).mono ?_
  rintro e1 w4 ⟨bg, hb, rfl, hH, hB⟩
  have H34 := Lib.hid (below_step (below_alloc (Below.refl _ w3) _) hB)
  have c4 : w4.cell? ⟨w.heap.size, 0, none⟩ = some (.slice (some ⟨blk, off, none⟩) L.length cap) := below_keep H34.out c3
  have p4 : w4.cell? ⟨w1.heap.size + 1, 0, none⟩ = some (.int .i64 ((22 : Nat) : Int)) := below_keep H34.out p3
  have fp4 : w4.frozen? ⟨w1.heap.size + 1, 0, none⟩ = false := ((bcell H34.out).2 _ _ (by omega)).trans fp3
  have fc4 : ∀ u, w4.frozen? ⟨w1.heap.size, u, none⟩ = false := fun u => ((bcell H34.out).2 _ _ (by omega)).trans (fc3 u)
  have HC4 := Lib.hid (HC3.out.keep H34.out)
  have HZ4 := Lib.hid (HZ3.out.keep H34.out)
  have FZ4 := Lib.hid (show ∀ u, w4.frozen? ⟨w.heap.size + 1, u, none⟩ = false from fun u => ((bcell H34.out).2 _ _ (by omega)).trans (FZ3.out u))
  have HL4 := Lib.hid (HL3.out.but (out := fun _ => False) (But.of_below H34.out) (by omega) (fun h => h))
  have H4 := Lib.hid (H3.out.trans (H34.out.mono (by omega)))
  have zg : bg < w4.heap.size := World.block_lt_of_cell? _ _ (hH 0 _ rfl)
  have z4 := H34.out.size
  have HH := Lib.hid hH
  simp at hb
  clear hH hB hlk c3 p3 fp3 fc3 HC3 HZ3 FZ3 HL3 H3 H34
  go_wp2_with fail
  refine (visit_reads w.heap.size (w1.heap.size + 1) bg w1.heap.size blk off cap 22 rspF rsp_fine rsp_sg (by decide) L hL (rdF L hdrF 0 [0, 0, 0, 0, 0, 0, 0, 0, 0, 0, 0, 0, 0, 0, 0, 0, 0, 0]) (by rw [rdF_len]; unfold rspF; simp) w4 c4 hcap hcl p4 fp4 HC4.out fc4 (by omega) HL4.out (by have := HLen.out; have h22 : totN rspF = 16 := rfl; omega) (by omega) (by omega) (by omega) (by omega) (by omega) (by omega) HH.out zg (by omega) (by omega)).mono ?_
  rintro e1 w5 ⟨rfl, hc5, _, _, _, b5⟩
  have z5 : w1.heap.size + 1 < w5.heap.size := by have := b5.size; omega
  have HC5 := Lib.hid (show Holds w5 w1.heap.size ([m0, m1, m2, m3, m4, m5, m6, m7, m8, m9, m10, m11, m12, m13, m14, m15, m16, m17].map (Value.int .i64)) by rw [← HM.out]; exact hc5)
  have HZ5 := Lib.hid (b5.holds HZ4.out (by omega) (by omega))
  have FZ5 := Lib.hid (show ∀ u, w5.frozen? ⟨w.heap.size + 1, u, none⟩ = false from fun u => (b5.frozen (by show w.heap.size + 1 < _; omega) (by show ¬ (w.heap.size + 1 = _ ∨ w.heap.size + 1 = _); omega)).trans (FZ4.out u))
  have H5 := Lib.hid (H4.out.trans (b5.below (B := w.heap.size) (by omega) (by rintro k (rfl | rfl) <;> omega)))
  clear hc5 b5 c4 p4 fp4 fc4 HC4 HZ4 FZ4 HL4 H4 HH zg hb z4
  have g17 : w5.cell? ⟨w1.heap.size, 17, none⟩ = some (.int .i64 m17) := HC5.out 17 _ rfl
  have HQ5 := Lib.hid (show Holds w5 w1.heap.size (mMsg m0 m1 m2 m3 m4 m5 m6 m7 m8 m9 m10 m11 m12 m13 m14 m15 m16) from fun j v hv => HC5.out j v (by
    have hj : j < 17 := (List.getElem?_eq_some_iff.1 hv).1
    have := List.getElem?_append_left (l₁ := mMsg m0 m1 m2 m3 m4 m5 m6 m7 m8 m9 m10 m11 m12 m13 m14 m15 m16) (l₂ := [.int .i64 m17]) (show j < (mMsg m0 m1 m2 m3 m4 m5 m6 m7 m8 m9 m10 m11 m12 m13 m14 m15 m16).length from hj)
    rw [← this] at hv
    exact hv))
  by_cases h17 : m17 = 38
  · subst h17
    go_wp2_with (((with_reducible refine at_load 27 (.tmp 51) ?_); refine wpList_load_wanted (by rfl) (.tmp 51) 27 rfl w1.heap.size 0 (mMsg m0 m1 m2 m3 m4 m5 m6 m7 m8 m9 m10 m11 m12 m13 m14 m15 m16) rfl ha.out hs.out HQ5.out ?_))
    refine (ptpCheck_any m0 m1 m2 m3 m4 m5 m6 m7 m8 m9 m10 m11 m12 m13 m14 m15 m16 _).mono ?_
    cases hr : rgtB (baseB m1 m2 m3 m4 m5) (kindB m0 m6 m7 m8 m9 m10 m11 m12 m13 m14 m15 m16)
    · rw [show chkB (baseB m1 m2 m3 m4 m5) (kindB m0 m6 m7 m8 m9 m10 m11 m12 m13 m14 m15 m16) = 200 by rw [chk_of_rgt, hr]; rfl]
      rintro e1 w6 ⟨rfl, hb6⟩
      have HZ6 := Lib.hid (HZ5.out.keep hb6)
      have FZ6 := Lib.hid (show ∀ u, w6.frozen? ⟨w.heap.size + 1, u, none⟩ = false from fun u => ((bcell hb6).2 _ _ (by omega)).trans (FZ5.out u))
      have H6 := Lib.hid (below_step H5.out hb6)
      have HR := Lib.hid hr
      clear hb6 hr HZ5 FZ5 H5 g17 HQ5 HC5
      go_wp2_with (((with_reducible refine at_store 27 (.tmp 2) (.tmp 56) ?_); refine wpList_store_whole rfl (.tmp 2) (.tmp 56) 27 rfl (w.heap.size + 1) 0 (([0, 0, 0, 0, 0, 0, 0, 0, 0, 0, 0, 0, 0, 0, 0, 0, 0] : List Int).map (Value.int .i64)) rfl rfl hs.out (fun j hj => HZ6.out.some j hj) (fun j _ => FZ6.out (0 + j)) (m17_one 0 0 0 0 0 0 0 0 0 0 0 0 0 0 0 0 0) ?_; intro w7 hw7))
      have hL2 := run_loadVar_whole (P := Try.prog) (w := w7) 27 (w.heap.size + 1) 0 (([0, 0, 0, 0, 0, 0, 0, 0, 0, 0, 0, 0, 0, 0, 0, 0, 0] : List Int).map (Value.int .i64)) ha.out hs.out hw7.here
      have hok : okM (decM 3 L) L.length = false := by
        rw [HM.out, HLen.out]
        show (decide ((38 : Int) = 38) && rgtB (baseB m1 m2 m3 m4 m5) (kindB m0 m6 m7 m8 m9 m10 m11 m12 m13 m14 m15 m16)) = false
        rw [HR.out, Bool.and_false]
      refine bodyPost_ret (v := .tuple #[.agg (([0, 0, 0, 0, 0, 0, 0, 0, 0, 0, 0, 0, 0, 0, 0, 0, 0] : List Int).map (Value.int .i64)).toArray, .int .i64 5]) (results_cell_tmp 2 3 27 Try.results22 (w.heap.size + 1) 0 _ _ rfl hL2 rfl) rfl ⟨?_, hw7.below _ _ (by omega) H6.out⟩
      rw [show decL 3 L = [0, 0, 0, 0, 0, 0, 0, 0, 0, 0, 0, 0, 0, 0, 0, 0, 0] by unfold decL; rw [hok]; rfl, show decE 3 L = 5 by unfold decE; rw [hok]; rfl]
    · rw [show chkB (baseB m1 m2 m3 m4 m5) (kindB m0 m6 m7 m8 m9 m10 m11 m12 m13 m14 m15 m16) = 0 by rw [chk_of_rgt, hr]; rfl]
      rintro e1 w6 ⟨rfl, hb6⟩
      have HZ6 := Lib.hid (HZ5.out.keep hb6)
      have FZ6 := Lib.hid (show ∀ u, w6.frozen? ⟨w.heap.size + 1, u, none⟩ = false from fun u => ((bcell hb6).2 _ _ (by omega)).trans (FZ5.out u))
      have HQ6 := Lib.hid (HQ5.out.keep hb6)
      have H6 := Lib.hid (below_step H5.out hb6)
      have HR := Lib.hid hr
      clear hb6 hr HZ5 FZ5 H5 g17 HQ5 HC5
      go_wp2_with (first | ((with_reducible refine at_load 27 (.tmp 59) ?_); refine wpList_load_whole rfl (.tmp 59) 27 rfl w1.heap.size 0 (mMsg m0 m1 m2 m3 m4 m5 m6 m7 m8 m9 m10 m11 m12 m13 m14 m15 m16) rfl ha.out hs.out HQ6.out ?_) | ((with_reducible refine at_store 27 (.tmp 2) (.tmp 60) ?_); refine wpList_store_whole rfl (.tmp 2) (.tmp 60) 27 rfl (w.heap.size + 1) 0 (mMsg m0 m1 m2 m3 m4 m5 m6 m7 m8 m9 m10 m11 m12 m13 m14 m15 m16) rfl rfl hs.out (fun j hj => HZ6.out.some j (by simpa [mMsg] using hj)) (fun j _ => FZ6.out (0 + j)) (m17_one m0 m1 m2 m3 m4 m5 m6 m7 m8 m9 m10 m11 m12 m13 m14 m15 m16) ?_; intro w7 hw7))
      have hL2 := run_loadVar_whole (P := Try.prog) (w := w7) 27 (w.heap.size + 1) 0 (mMsg m0 m1 m2 m3 m4 m5 m6 m7 m8 m9 m10 m11 m12 m13 m14 m15 m16) ha.out hs.out hw7.here
      have hok : okM (decM 3 L) L.length = true := by
        rw [HM.out, HLen.out]
        show (decide ((38 : Int) = 38) && rgtB (baseB m1 m2 m3 m4 m5) (kindB m0 m6 m7 m8 m9 m10 m11 m12 m13 m14 m15 m16)) = true
        rw [HR.out]; rfl
      refine bodyPost_ret (v := .tuple #[.agg (mMsg m0 m1 m2 m3 m4 m5 m6 m7 m8 m9 m10 m11 m12 m13 m14 m15 m16).toArray, .int .i64 0]) (results_cell_tmp 2 3 27 Try.results22 (w.heap.size + 1) 0 _ _ rfl hL2 rfl) rfl ⟨?_, hw7.below _ _ (by omega) H6.out⟩
      rw [show decL 3 L = [m0, m1, m2, m3, m4, m5, m6, m7, m8, m9, m10, m11, m12, m13, m14, m15, m16] by unfold decL; rw [if_pos hok, HM.out]; rfl, show decE 3 L = 0 by unfold decE; rw [if_pos hok]]
      rfl
  · have H17 := Lib.hid h17
    go_wp2_with (((with_reducible refine at_store 27 (.tmp 2) (.tmp 56) ?_); refine wpList_store_whole rfl (.tmp 2) (.tmp 56) 27 rfl (w.heap.size + 1) 0 (([0, 0, 0, 0, 0, 0, 0, 0, 0, 0, 0, 0, 0, 0, 0, 0, 0] : List Int).map (Value.int .i64)) rfl rfl hs.out (fun j hj => HZ5.out.some j hj) (fun j _ => FZ5.out (0 + j)) (m17_one 0 0 0 0 0 0 0 0 0 0 0 0 0 0 0 0 0) ?_; intro w7 hw7))
    have hL2 := run_loadVar_whole (P := Try.prog) (w := w7) 27 (w.heap.size + 1) 0 (([0, 0, 0, 0, 0, 0, 0, 0, 0, 0, 0, 0, 0, 0, 0, 0, 0] : List Int).map (Value.int .i64)) ha.out hs.out hw7.here
    have hok : okM (decM 3 L) L.length = false := by
      rw [HM.out, HLen.out]
      show (decide (m17 = (38 : Int)) && rgtB (baseB m1 m2 m3 m4 m5) (kindB m0 m6 m7 m8 m9 m10 m11 m12 m13 m14 m15 m16)) = false
      rw [decide_eq_false H17.out, Bool.false_and]
    refine bodyPost_ret (v := .tuple #[.agg (([0, 0, 0, 0, 0, 0, 0, 0, 0, 0, 0, 0, 0, 0, 0, 0, 0] : List Int).map (Value.int .i64)).toArray, .int .i64 5]) (results_cell_tmp 2 3 27 Try.results22 (w.heap.size + 1) 0 _ _ rfl hL2 rfl) rfl ⟨?_, hw7.below _ _ (by omega) H5.out⟩
    rw [show decL 3 L = [0, 0, 0, 0, 0, 0, 0, 0, 0, 0, 0, 0, 0, 0, 0, 0, 0] by unfold decL; rw [hok]; rfl, show decE 3 L = 5 by unfold decE; rw [hok]; rfl]

set_option maxHeartbeats 16000000 in
set_option maxRecDepth 100000 in
theorem decode_10 (blk off cap : Nat) (L : List Int) (hL : Bytes L) (hlen : L.length = 38) (hk : L[0]? = some 10) (hcap : L.length ≤ cap) (hcl : cap ≤ 9223372036854775807) (w : World) (hl : Lies w blk off L) :
    Calls Try.prog 22 #[.slice (some ⟨blk, off, none⟩) L.length cap] w fun e1 w' => e1 = .returned (.tuple #[.agg ((decL 10 L).map (Value.int .i64)).toArray, .int .i64 (decE 10 L)]) ∧ Below w.heap.size w w' := by
  have ha := Lib.hid agg_msg
  have hs := Lib.hid size_msg
  have dw : w.cell? ⟨blk, off, none⟩ = some (.int .u8 10) := by simpa using hl 0 10 hk
  have zb : blk < w.heap.size := World.block_lt_of_cell? _ _ dw
  have HLen := Lib.hid hlen
  have HL := Lib.hid hl
  clear hl
  obtain ⟨m0, m1, m2, m3, m4, m5, m6, m7, m8, m9, m10, m11, m12, m13, m14, m15, m16, m17, hM⟩ := eighteen (decM_len 10 L)
  have HM := Lib.hid hM
  clear hM
  rw [hlen] at hcap ⊢
  clear hlen
  go_enter Try.func22, Try.ntmps22
  go_wp2_with fail
  refine (size_10 _).mono ?_
  rintro e1 w1 ⟨rfl, hb1⟩
  have c1 : w1.cell? ⟨w.heap.size, 0, none⟩ = some (.slice (some ⟨blk, off, none⟩) 38 cap) := below_keep hb1 (by simp [go_sem])
  have HZ1 := Lib.hid ((z17_holds w [.slice (some ⟨blk, off, none⟩) 38 cap] 44).keep hb1)
  have FZ1 := Lib.hid (show ∀ u, w1.frozen? ⟨w.heap.size + 1, u, none⟩ = false from fun u => by rw [(bcell hb1).2 _ _ (by simp)]; exact frozen_new _ _ _ _ (by simp))
  have H1 := Lib.hid (below_step (below_alloc (below_alloc (Below.refl _ _) _) _) hb1)
  have z1 : w.heap.size + 1 < w1.heap.size := World.block_lt_of_cell? _ _ (HZ1.out 0 _ rfl)
  have zb1 : blk < w1.heap.size := by omega
  have HL1 := Lib.hid (show Lies w1 blk off L from fun j x hx => (H1.out.cell zb).trans (HL.out j x hx))
  clear hb1 dw
  go_wp2_with fail
  refine (header_any _ _).mono ?_
  rintro e1 w2 ⟨bf, hb, rfl, hH, hB⟩
  have c2 : w2.cell? ⟨w.heap.size, 0, none⟩ = some (.slice (some ⟨blk, off, none⟩) 38 cap) := below_keep hB (cell_al (cell_al c1 _) _)
  have p2 : w2.cell? ⟨w1.heap.size + 1, 0, none⟩ = some (.int .i64 0) := below_keep hB (by simp [go_sem])
  have fp2 : w2.frozen? ⟨w1.heap.size + 1, 0, none⟩ = false := by rw [(bcell hB).2 _ _ (by simp)]; simp [go_sem]
  have fc2 : ∀ u, w2.frozen? ⟨w1.heap.size, u, none⟩ = false := fun u => by rw [(bcell hB).2 _ _ (by simp; omega)]; simp [go_sem]
  have HC2 := Lib.hid (((holds_alloc w1 (([0, 0, 0, 0, 0, 0, 0, 0, 0, 0, 0, 0, 0, 0, 0, 0, 0, 0] : List Int).map (Value.int .i64)) 70 rfl).alloc (by simp) _).keep hB)
  have HZ2 := Lib.hid (((HZ1.out.alloc z1 _).alloc (by simp; omega) _).keep hB)
  have FZ2 := Lib.hid (show ∀ u, w2.frozen? ⟨w.heap.size + 1, u, none⟩ = false from fun u => ((bcell hB).2 _ _ (by simp; omega)).trans (frozen_al (frozen_al (FZ1.out u) z1 _) (by simp; omega) _))
  have HL2 := Lib.hid (show Lies w2 blk off L from fun j x hx => below_keep hB (cell_al (cell_al (HL1.out j x hx) _) _))
  have H2 := Lib.hid (below_step (below_alloc (below_alloc H1.out _) _) hB)
  have z2 : w1.heap.size + 1 < w2.heap.size := World.block_lt_of_cell? _ _ p2
  have zf : bf < w2.heap.size := World.block_lt_of_cell? _ _ (hH 0 _ rfl)
  have HH := Lib.hid hH
  simp at hb
  clear hH hB c1 HZ1 FZ1 H1 HL1
  go_wp2_with fail
  rw [← HLen.out] at c2 hcap
  refine (visit_reads w.heap.size (w1.heap.size + 1) bf w1.heap.size blk off cap 0 hdrF hdr_fine hdr_sg (by decide) L hL [0, 0, 0, 0, 0, 0, 0, 0, 0, 0, 0, 0, 0, 0, 0, 0, 0, 0] (by unfold hdrF; simp) w2 c2 hcap hcl p2 fp2 HC2.out fc2 (by omega) HL2.out (by have := HLen.out; have h22 : totN hdrF = 22 := rfl; omega) (by omega) (by omega) (by omega) (by omega) (by omega) (by omega) HH.out zf (by omega) (by omega)).mono ?_
  rintro e1 w3 ⟨rfl, hc3, p3, fp3, fc3, b3⟩
  have z3 := b3.size
  have c3 : w3.cell? ⟨w.heap.size, 0, none⟩ = some (.slice (some ⟨blk, off, none⟩) L.length cap) := (b3.cell (by show w.heap.size < _; omega) (by show ¬ (w.heap.size = _ ∨ w.heap.size = _); omega)).trans c2
  have HC3 := Lib.hid hc3
  have HZ3 := Lib.hid (b3.holds HZ2.out (by omega) (by omega))
  have FZ3 := Lib.hid (show ∀ u, w3.frozen? ⟨w.heap.size + 1, u, none⟩ = false from fun u => (b3.frozen (by show w.heap.size + 1 < _; omega) (by show ¬ (w.heap.size + 1 = _ ∨ w.heap.size + 1 = _); omega)).trans (FZ2.out u))
  have HL3 := Lib.hid (HL2.out.but b3 (by omega) (by omega))
  have H3 := Lib.hid (H2.out.trans (b3.below (B := w.heap.size) (by omega) (by rintro k (rfl | rfl) <;> omega)))
  clear hc3 b3 c2 p2 fp2 fc2 HC2 HZ2 FZ2 HL2 H2 HH zf hb
  go_wp2_with fail
  refine (kinds_any _).mono ?_
  rintro e1 w9 ⟨rfl, rfl⟩
  have hlk := look_10 (W := w3.alloc (.map kindsM 6)) (MapKept.heap_alloc w3 _).1 false
  simp only [Bool.false_eq_true, ↓reduceIte] at hlk
  go_wp2_with fail
  refine (response_any _ _).mono ?_
  rintro e1 w4 ⟨bg, hb, rfl, hH, hB⟩
  have H34 := Lib.hid (below_step (below_alloc (Below.refl _ w3) _) hB)
  have c4 : w4.cell? ⟨w.heap.size, 0, none⟩ = some (.slice (some ⟨blk, off, none⟩) L.length cap) := below_keep H34.out c3
  have p4 : w4.cell? ⟨w1.heap.size + 1, 0, none⟩ = some (.int .i64 ((22 : Nat) : Int)) := below_keep H34.out p3
  have fp4 : w4.frozen? ⟨w1.heap.size + 1, 0, none⟩ = false := ((bcell H34.out).2 _ _ (by omega)).trans fp3
  have fc4 : ∀ u, w4.frozen? ⟨w1.heap.size, u, none⟩ = false := fun u => ((bcell H34.out).2 _ _ (by omega)).trans (fc3 u)
  have HC4 := Lib.hid (HC3.out.keep H34.out)
  have HZ4 := Lib.hid (HZ3.out.keep H34.out)
  have FZ4 := Lib.hid (show ∀ u, w4.frozen? ⟨w.heap.size + 1, u, none⟩ = false from fun u => ((bcell H34.out).2 _ _ (by omega)).trans (FZ3.out u))
  have HL4 := Lib.hid (HL3.out.but (out := fun _ => False) (But.of_below H34.out) (by omega) (fun h => h))
  have H4 := Lib.hid (H3.out.trans (H34.out.mono (by omega)))
  have zg : bg < w4.heap.size := World.block_lt_of_cell? _ _ (hH 0 _ rfl)
  have z4 := H34.out.size
  have HH := Lib.hid hH
  simp at hb
  clear hH hB hlk c3 p3 fp3 fc3 HC3 HZ3 FZ3 HL3 H3 H34
  go_wp2_with fail
  refine (visit_reads w.heap.size (w1.heap.size + 1) bg w1.heap.size blk off cap 22 rspF rsp_fine rsp_sg (by decide) L hL (rdF L hdrF 0 [0, 0, 0, 0, 0, 0, 0, 0, 0, 0, 0, 0, 0, 0, 0, 0, 0, 0]) (by rw [rdF_len]; unfold rspF; simp) w4 c4 hcap hcl p4 fp4 HC4.out fc4 (by omega) HL4.out (by have := HLen.out; have h22 : totN rspF = 16 := rfl; omega) (by omega) (by omega) (by omega) (by omega) (by omega) (by omega) HH.out zg (by omega) (by omega)).mono ?_
  rintro e1 w5 ⟨rfl, hc5, _, _, _, b5⟩
  have z5 : w1.heap.size + 1 < w5.heap.size := by have := b5.size; omega
  have HC5 := Lib.hid (show Holds w5 w1.heap.size ([m0, m1, m2, m3, m4, m5, m6, m7, m8, m9, m10, m11, m12, m13, m14, m15, m16, m17].map (Value.int .i64)) by rw [← HM.out]; exact hc5)
  have HZ5 := Lib.hid (b5.holds HZ4.out (by omega) (by omega))
  have FZ5 := Lib.hid (show ∀ u, w5.frozen? ⟨w.heap.size + 1, u, none⟩ = false from fun u => (b5.frozen (by show w.heap.size + 1 < _; omega) (by show ¬ (w.heap.size + 1 = _ ∨ w.heap.size + 1 = _); omega)).trans (FZ4.out u))
  have H5 := Lib.hid (H4.out.trans (b5.below (B := w.heap.size) (by omega) (by rintro k (rfl | rfl) <;> omega)))
  clear hc5 b5 c4 p4 fp4 fc4 HC4 HZ4 FZ4 HL4 H4 HH zg hb z4
  have g17 : w5.cell? ⟨w1.heap.size, 17, none⟩ = some (.int .i64 m17) := HC5.out 17 _ rfl
  have HQ5 := Lib.hid (show Holds w5 w1.heap.size (mMsg m0 m1 m2 m3 m4 m5 m6 m7 m8 m9 m10 m11 m12 m13 m14 m15 m16) from fun j v hv => HC5.out j v (by
    have hj : j < 17 := (List.getElem?_eq_some_iff.1 hv).1
    have := List.getElem?_append_left (l₁ := mMsg m0 m1 m2 m3 m4 m5 m6 m7 m8 m9 m10 m11 m12 m13 m14 m15 m16) (l₂ := [.int .i64 m17]) (show j < (mMsg m0 m1 m2 m3 m4 m5 m6 m7 m8 m9 m10 m11 m12 m13 m14 m15 m16).length from hj)
    rw [← this] at hv
    exact hv))
  by_cases h17 : m17 = 38
  · subst h17
    go_wp2_with (((with_reducible refine at_load 27 (.tmp 51) ?_); refine wpList_load_wanted (by rfl) (.tmp 51) 27 rfl w1.heap.size 0 (mMsg m0 m1 m2 m3 m4 m5 m6 m7 m8 m9 m10 m11 m12 m13 m14 m15 m16) rfl ha.out hs.out HQ5.out ?_))
    refine (ptpCheck_any m0 m1 m2 m3 m4 m5 m6 m7 m8 m9 m10 m11 m12 m13 m14 m15 m16 _).mono ?_
    cases hr : rgtB (baseB m1 m2 m3 m4 m5) (kindB m0 m6 m7 m8 m9 m10 m11 m12 m13 m14 m15 m16)
    · rw [show chkB (baseB m1 m2 m3 m4 m5) (kindB m0 m6 m7 m8 m9 m10 m11 m12 m13 m14 m15 m16) = 200 by rw [chk_of_rgt, hr]; rfl]
      rintro e1 w6 ⟨rfl, hb6⟩
      have HZ6 := Lib.hid (HZ5.out.keep hb6)
      have FZ6 := Lib.hid (show ∀ u, w6.frozen? ⟨w.heap.size + 1, u, none⟩ = false from fun u => ((bcell hb6).2 _ _ (by omega)).trans (FZ5.out u))
      have H6 := Lib.hid (below_step H5.out hb6)
      have HR := Lib.hid hr
      clear hb6 hr HZ5 FZ5 H5 g17 HQ5 HC5
      go_wp2_with (((with_reducible refine at_store 27 (.tmp 2) (.tmp 56) ?_); refine wpList_store_whole rfl (.tmp 2) (.tmp 56) 27 rfl (w.heap.size + 1) 0 (([0, 0, 0, 0, 0, 0, 0, 0, 0, 0, 0, 0, 0, 0, 0, 0, 0] : List Int).map (Value.int .i64)) rfl rfl hs.out (fun j hj => HZ6.out.some j hj) (fun j _ => FZ6.out (0 + j)) (m17_one 0 0 0 0 0 0 0 0 0 0 0 0 0 0 0 0 0) ?_; intro w7 hw7))
      have hL2 := run_loadVar_whole (P := Try.prog) (w := w7) 27 (w.heap.size + 1) 0 (([0, 0, 0, 0, 0, 0, 0, 0, 0, 0, 0, 0, 0, 0, 0, 0, 0] : List Int).map (Value.int .i64)) ha.out hs.out hw7.here
      have hok : okM (decM 10 L) L.length = false := by
        rw [HM.out, HLen.out]
        show (decide ((38 : Int) = 38) && rgtB (baseB m1 m2 m3 m4 m5) (kindB m0 m6 m7 m8 m9 m10 m11 m12 m13 m14 m15 m16)) = false
        rw [HR.out, Bool.and_false]
      refine bodyPost_ret (v := .tuple #[.agg (([0, 0, 0, 0, 0, 0, 0, 0, 0, 0, 0, 0, 0, 0, 0, 0, 0] : List Int).map (Value.int .i64)).toArray, .int .i64 5]) (results_cell_tmp 2 3 27 Try.results22 (w.heap.size + 1) 0 _ _ rfl hL2 rfl) rfl ⟨?_, hw7.below _ _ (by omega) H6.out⟩
      rw [show decL 10 L = [0, 0, 0, 0, 0, 0, 0, 0, 0, 0, 0, 0, 0, 0, 0, 0, 0] by unfold decL; rw [hok]; rfl, show decE 10 L = 5 by unfold decE; rw [hok]; rfl]
    · rw [show chkB (baseB m1 m2 m3 m4 m5) (kindB m0 m6 m7 m8 m9 m10 m11 m12 m13 m14 m15 m16) = 0 by rw [chk_of_rgt, hr]; rfl]
      rintro e1 w6 ⟨rfl, hb6⟩
      have HZ6 := Lib.hid (HZ5.out.keep hb6)
      have FZ6 := Lib.hid (show ∀ u, w6.frozen? ⟨w.heap.size + 1, u, none⟩ = false from fun u => ((bcell hb6).2 _ _ (by omega)).trans (FZ5.out u))
      have HQ6 := Lib.hid (HQ5.out.keep hb6)
      have H6 := Lib.hid (below_step H5.out hb6)
      have HR := Lib.hid hr
      clear hb6 hr HZ5 FZ5 H5 g17 HQ5 HC5
      go_wp2_with (first | ((with_reducible refine at_load 27 (.tmp 59) ?_); refine wpList_load_whole rfl (.tmp 59) 27 rfl w1.heap.size 0 (mMsg m0 m1 m2 m3 m4 m5 m6 m7 m8 m9 m10 m11 m12 m13 m14 m15 m16) rfl ha.out hs.out HQ6.out ?_) | ((with_reducible refine at_store 27 (.tmp 2) (.tmp 60) ?_); refine wpList_store_whole rfl (.tmp 2) (.tmp 60) 27 rfl (w.heap.size + 1) 0 (mMsg m0 m1 m2 m3 m4 m5 m6 m7 m8 m9 m10 m11 m12 m13 m14 m15 m16) rfl rfl hs.out (fun j hj => HZ6.out.some j (by simpa [mMsg] using hj)) (fun j _ => FZ6.out (0 + j)) (m17_one m0 m1 m2 m3 m4 m5 m6 m7 m8 m9 m10 m11 m12 m13 m14 m15 m16) ?_; intro w7 hw7))
      have hL2 := run_loadVar_whole (P := Try.prog) (w := w7) 27 (w.heap.size + 1) 0 (mMsg m0 m1 m2 m3 m4 m5 m6 m7 m8 m9 m10 m11 m12 m13 m14 m15 m16) ha.out hs.out hw7.here
      have hok : okM (decM 10 L) L.length = true := by
        rw [HM.out, HLen.out]
        show (decide ((38 : Int) = 38) && rgtB (baseB m1 m2 m3 m4 m5) (kindB m0 m6 m7 m8 m9 m10 m11 m12 m13 m14 m15 m16)) = true
        rw [HR.out]; rfl
      refine bodyPost_ret (v := .tuple #[.agg (mMsg m0 m1 m2 m3 m4 m5 m6 m7 m8 m9 m10 m11 m12 m13 m14 m15 m16).toArray, .int .i64 0]) (results_cell_tmp 2 3 27 Try.results22 (w.heap.size + 1) 0 _ _ rfl hL2 rfl) rfl ⟨?_, hw7.below _ _ (by omega) H6.out⟩
      rw [show decL 10 L = [m0, m1, m2, m3, m4, m5, m6, m7, m8, m9, m10, m11, m12, m13, m14, m15, m16] by unfold decL; rw [if_pos hok, HM.out]; rfl, show decE 10 L = 0 by unfold decE; rw [if_pos hok]]
      rfl
  · have H17 := Lib.hid h17
    go_wp2_with (((with_reducible refine at_store 27 (.tmp 2) (.tmp 56) ?_); refine wpList_store_whole rfl (.tmp 2) (.tmp 56) 27 rfl (w.heap.size + 1) 0 (([0, 0, 0, 0, 0, 0, 0, 0, 0, 0, 0, 0, 0, 0, 0, 0, 0] : List Int).map (Value.int .i64)) rfl rfl hs.out (fun j hj => HZ5.out.some j hj) (fun j _ => FZ5.out (0 + j)) (m17_one 0 0 0 0 0 0 0 0 0 0 0 0 0 0 0 0 0) ?_; intro w7 hw7))
    have hL2 := run_loadVar_whole (P := Try.prog) (w := w7) 27 (w.heap.size + 1) 0 (([0, 0, 0, 0, 0, 0, 0, 0, 0, 0, 0, 0, 0, 0, 0, 0, 0] : List Int).map (Value.int .i64)) ha.out hs.out hw7.here
    have hok : okM (decM 10 L) L.length = false := by
      rw [HM.out, HLen.out]
      show (decide (m17 = (38 : Int)) && rgtB (baseB m1 m2 m3 m4 m5) (kindB m0 m6 m7 m8 m9 m10 m11 m12 m13 m14 m15 m16)) = false
      rw [decide_eq_false H17.out, Bool.false_and]
    refine bodyPost_ret (v := .tuple #[.agg (([0, 0, 0, 0, 0, 0, 0, 0, 0, 0, 0, 0, 0, 0, 0, 0, 0] : List Int).map (Value.int .i64)).toArray, .int .i64 5]) (results_cell_tmp 2 3 27 Try.results22 (w.heap.size + 1) 0 _ _ rfl hL2 rfl) rfl ⟨?_, hw7.below _ _ (by omega) H5.out⟩
    rw [show decL 10 L = [0, 0, 0, 0, 0, 0, 0, 0, 0, 0, 0, 0, 0, 0, 0, 0, 0] by unfold decL; rw [hok]; rfl, show decE 10 L = 5 by unfold decE; rw [hok]; rfl]

set_option maxHeartbeats 16000000 in
set_option maxRecDepth 100000 in
theorem decode_8 (blk off cap : Nat) (L : List Int) (hL : Bytes L) (hlen : L.length = 34) (hk : L[0]? = some 8) (hcap : L.length ≤ cap) (hcl : cap ≤ 9223372036854775807) (w : World) (hl : Lies w blk off L) :
    Calls Try.prog 22 #[.slice (some ⟨blk, off, none⟩) L.length cap] w fun e1 w' => e1 = .returned (.tuple #[.agg ((decL 8 L).map (Value.int .i64)).toArray, .int .i64 (decE 8 L)]) ∧ Below w.heap.size w w' := by
  have ha := Lib.hid agg_msg
  have hs := Lib.hid size_msg
  have dw : w.cell? ⟨blk, off, none⟩ = some (.int .u8 8) := by simpa using hl 0 8 hk
  have zb : blk < w.heap.size := World.block_lt_of_cell? _ _ dw
  have HLen := Lib.hid hlen
  have HL := Lib.hid hl
  clear hl
  obtain ⟨m0, m1, m2, m3, m4, m5, m6, m7, m8, m9, m10, m11, m12, m13, m14, m15, m16, m17, hM⟩ := eighteen (decM_len 8 L)
  have HM := Lib.hid hM
  clear hM
  rw [hlen] at hcap ⊢
  clear hlen
  go_enter Try.func22, Try.ntmps22
  go_wp2_with fail
  refine (size_8 _).mono ?_
  rintro e1 w1 ⟨rfl, hb1⟩
  have c1 : w1.cell? ⟨w.heap.size, 0, none⟩ = some (.slice (some ⟨blk, off, none⟩) 34 cap) := below_keep hb1 (by simp [go_sem])
  have HZ1 := Lib.hid ((z17_holds w [.slice (some ⟨blk, off, none⟩) 34 cap] 44).keep hb1)
  have FZ1 := Lib.hid (show ∀ u, w1.frozen? ⟨w.heap.size + 1, u, none⟩ = false from fun u => by rw [(bcell hb1).2 _ _ (by simp)]; exact frozen_new _ _ _ _ (by simp))
  have H1 := Lib.hid (below_step (below_alloc (below_alloc (Below.refl _ _) _) _) hb1)
  have z1 : w.heap.size + 1 < w1.heap.size := World.block_lt_of_cell? _ _ (HZ1.out 0 _ rfl)
  have zb1 : blk < w1.heap.size := by omega
  have HL1 := Lib.hid (show Lies w1 blk off L from fun j x hx => (H1.out.cell zb).trans (HL.out j x hx))
  clear hb1 dw
  go_wp2_with fail
  refine (header_any _ _).mono ?_
  rintro e1 w2 ⟨bf, hb, rfl, hH, hB⟩
  have c2 : w2.cell? ⟨w.heap.size, 0, none⟩ = some (.slice (some ⟨blk, off, none⟩) 34 cap) := below_keep hB (cell_al (cell_al c1 _) _)
  have p2 : w2.cell? ⟨w1.heap.size + 1, 0, none⟩ = some (.int .i64 0) := below_keep hB (by simp [go_sem])
  have fp2 : w2.frozen? ⟨w1.heap.size + 1, 0, none⟩ = false := by rw [(bcell hB).2 _ _ (by simp)]; simp [go_sem]
  have fc2 : ∀ u, w2.frozen? ⟨w1.heap.size, u, none⟩ = false := fun u => by rw [(bcell hB).2 _ _ (by simp; omega)]; simp [go_sem]
  have HC2 := Lib.hid (((holds_alloc w1 (([0, 0, 0, 0, 0, 0, 0, 0, 0, 0, 0, 0, 0, 0, 0, 0, 0, 0] : List Int).map (Value.int .i64)) 70 rfl).alloc (by simp) _).keep hB)
  have HZ2 := Lib.hid (((HZ1.out.alloc z1 _).alloc (by simp; omega) _).keep hB)
  have FZ2 := Lib.hid (show ∀ u, w2.frozen? ⟨w.heap.size + 1, u, none⟩ = false from fun u => ((bcell hB).2 _ _ (by simp; omega)).trans (frozen_al (frozen_al (FZ1.out u) z1 _) (by simp; omega) _))
  have HL2 := Lib.hid (show Lies w2 blk off L from fun j x hx => below_keep hB (cell_al (cell_al (HL1.out j x hx) _) _))
  have H2 := Lib.hid (below_step (below_alloc (below_alloc H1.out _) _) hB)
  have z2 : w1.heap.size + 1 < w2.heap.size := World.block_lt_of_cell? _ _ p2
  have zf : bf < w2.heap.size := World.block_lt_of_cell? _ _ (hH 0 _ rfl)
  have HH := Lib.hid hH
  simp at hb
  clear hH hB c1 HZ1 FZ1 H1 HL1
  go_wp2_with fail
  rw [← HLen.out] at c2 hcap
  refine (visit_reads w.heap.size (w1.heap.size + 1) bf w1.heap.size blk off cap 0 hdrF hdr_fine hdr_sg (by decide) L hL [0, 0, 0, 0, 0, 0, 0, 0, 0, 0, 0, 0, 0, 0, 0, 0, 0, 0] (by unfold hdrF; simp) w2 c2 hcap hcl p2 fp2 HC2.out fc2 (by omega) HL2.out (by have := HLen.out; have h22 : totN hdrF = 22 := rfl; omega) (by omega) (by omega) (by omega) (by omega) (by omega) (by omega) HH.out zf (by omega) (by omega)).mono ?_
  rintro e1 w3 ⟨rfl, hc3, p3, fp3, fc3, b3⟩
  have z3 := b3.size
  have c3 : w3.cell? ⟨w.heap.size, 0, none⟩ = some (.slice (some ⟨blk, off, none⟩) L.length cap) := (b3.cell (by show w.heap.size < _; omega) (by show ¬ (w.heap.size = _ ∨ w.heap.size = _); omega)).trans c2
  have HC3 := Lib.hid hc3
  have HZ3 := Lib.hid (b3.holds HZ2.out (by omega) (by omega))
  have FZ3 := Lib.hid (show ∀ u, w3.frozen? ⟨w.heap.size + 1, u, none⟩ = false from fun u => (b3.frozen (by show w.heap.size + 1 < _; omega) (by show ¬ (w.heap.size + 1 = _ ∨ w.heap.size + 1 = _); omega)).trans (FZ2.out u))
  have HL3 := Lib.hid (HL2.out.but b3 (by omega) (by omega))
  have H3 := Lib.hid (H2.out.trans (b3.below (B := w.heap.size) (by omega) (by rintro k (rfl | rfl) <;> omega)))
  clear hc3 b3 c2 p2 fp2 fc2 HC2 HZ2 FZ2 HL2 H2 HH zf hb
  go_wp2_with fail
  refine (kinds_any _).mono ?_
  rintro e1 w9 ⟨rfl, rfl⟩
  have hlk := look_8 (W := w3.alloc (.map kindsM 6)) (MapKept.heap_alloc w3 _).1 false
  simp only [Bool.false_eq_true, ↓reduceIte] at hlk
  go_wp2_with fail
  refine (follow_any _ _).mono ?_
  rintro e1 w4 ⟨bg, hb, rfl, hH, hB⟩
  have H34 := Lib.hid (below_step (below_alloc (Below.refl _ w3) _) hB)
  have c4 : w4.cell? ⟨w.heap.size, 0, none⟩ = some (.slice (some ⟨blk, off, none⟩) L.length cap) := below_keep H34.out c3
  have p4 : w4.cell? ⟨w1.heap.size + 1, 0, none⟩ = some (.int .i64 ((22 : Nat) : Int)) := below_keep H34.out p3
  have fp4 : w4.frozen? ⟨w1.heap.size + 1, 0, none⟩ = false := ((bcell H34.out).2 _ _ (by omega)).trans fp3
  have fc4 : ∀ u, w4.frozen? ⟨w1.heap.size, u, none⟩ = false := fun u => ((bcell H34.out).2 _ _ (by omega)).trans (fc3 u)
  have HC4 := Lib.hid (HC3.out.keep H34.out)
  have HZ4 := Lib.hid (HZ3.out.keep H34.out)
  have FZ4 := Lib.hid (show ∀ u, w4.frozen? ⟨w.heap.size + 1, u, none⟩ = false from fun u => ((bcell H34.out).2 _ _ (by omega)).trans (FZ3.out u))
  have HL4 := Lib.hid (HL3.out.but (out := fun _ => False) (But.of_below H34.out) (by omega) (fun h => h))
  have H4 := Lib.hid (H3.out.trans (H34.out.mono (by omega)))
  have zg : bg < w4.heap.size := World.block_lt_of_cell? _ _ (hH 0 _ rfl)
  have z4 := H34.out.size
  have HH := Lib.hid hH
  simp at hb
  clear hH hB hlk c3 p3 fp3 fc3 HC3 HZ3 FZ3 HL3 H3 H34
  go_wp2_with fail
  refine (visit_reads w.heap.size (w1.heap.size + 1) bg w1.heap.size blk off cap 22 folF fol_fine fol_sg (by decide) L hL (rdF L hdrF 0 [0, 0, 0, 0, 0, 0, 0, 0, 0, 0, 0, 0, 0, 0, 0, 0, 0, 0]) (by rw [rdF_len]; unfold folF; simp) w4 c4 hcap hcl p4 fp4 HC4.out fc4 (by omega) HL4.out (by have := HLen.out; have h22 : totN folF = 12 := rfl; omega) (by omega) (by omega) (by omega) (by omega) (by omega) (by omega) HH.out zg (by omega) (by omega)).mono ?_
  rintro e1 w5 ⟨rfl, hc5, _, _, _, b5⟩
  have z5 : w1.heap.size + 1 < w5.heap.size := by have := b5.size; omega
  have HC5 := Lib.hid (show Holds w5 w1.heap.size ([m0, m1, m2, m3, m4, m5, m6, m7, m8, m9, m10, m11, m12, m13, m14, m15, m16, m17].map (Value.int .i64)) by rw [← HM.out]; exact hc5)
  have HZ5 := Lib.hid (b5.holds HZ4.out (by omega) (by omega))
  have FZ5 := Lib.hid (show ∀ u, w5.frozen? ⟨w.heap.size + 1, u, none⟩ = false from fun u => (b5.frozen (by show w.heap.size + 1 < _; omega) (by show ¬ (w.heap.size + 1 = _ ∨ w.heap.size + 1 = _); omega)).trans (FZ4.out u))
  have H5 := Lib.hid (H4.out.trans (b5.below (B := w.heap.size) (by omega) (by rintro k (rfl | rfl) <;> omega)))
  clear hc5 b5 c4 p4 fp4 fc4 HC4 HZ4 FZ4 HL4 H4 HH zg hb z4
  have g17 : w5.cell? ⟨w1.heap.size, 17, none⟩ = some (.int .i64 m17) := HC5.out 17 _ rfl
  have HQ5 := Lib.hid (show Holds w5 w1.heap.size (mMsg m0 m1 m2 m3 m4 m5 m6 m7 m8 m9 m10 m11 m12 m13 m14 m15 m16) from fun j v hv => HC5.out j v (by
    have hj : j < 17 := (List.getElem?_eq_some_iff.1 hv).1
    have := List.getElem?_append_left (l₁ := mMsg m0 m1 m2 m3 m4 m5 m6 m7 m8 m9 m10 m11 m12 m13 m14 m15 m16) (l₂ := [.int .i64 m17]) (show j < (mMsg m0 m1 m2 m3 m4 m5 m6 m7 m8 m9 m10 m11 m12 m13 m14 m15 m16).length from hj)
    rw [← this] at hv
    exact hv))
  by_cases h17 : m17 = 34
  · subst h17
    go_wp2_with (((with_reducible refine at_load 27 (.tmp 51) ?_); refine wpList_load_wanted (by rfl) (.tmp 51) 27 rfl w1.heap.size 0 (mMsg m0 m1 m2 m3 m4 m5 m6 m7 m8 m9 m10 m11 m12 m13 m14 m15 m16) rfl ha.out hs.out HQ5.out ?_))
    refine (ptpCheck_any m0 m1 m2 m3 m4 m5 m6 m7 m8 m9 m10 m11 m12 m13 m14 m15 m16 _).mono ?_
    cases hr : rgtB (baseB m1 m2 m3 m4 m5) (kindB m0 m6 m7 m8 m9 m10 m11 m12 m13 m14 m15 m16)
    · rw [show chkB (baseB m1 m2 m3 m4 m5) (kindB m0 m6 m7 m8 m9 m10 m11 m12 m13 m14 m15 m16) = 200 by rw [chk_of_rgt, hr]; rfl]
      rintro e1 w6 ⟨rfl, hb6⟩
      have HZ6 := Lib.hid (HZ5.out.keep hb6)
      have FZ6 := Lib.hid (show ∀ u, w6.frozen? ⟨w.heap.size + 1, u, none⟩ = false from fun u => ((bcell hb6).2 _ _ (by omega)).trans (FZ5.out u))
      have H6 := Lib.hid (below_step H5.out hb6)
      have HR := Lib.hid hr
      clear hb6 hr HZ5 FZ5 H5 g17 HQ5 HC5
      go_wp2_with (((with_reducible refine at_store 27 (.tmp 2) (.tmp 56) ?_); refine wpList_store_whole rfl (.tmp 2) (.tmp 56) 27 rfl (w.heap.size + 1) 0 (([0, 0, 0, 0, 0, 0, 0, 0, 0, 0, 0, 0, 0, 0, 0, 0, 0] : List Int).map (Value.int .i64)) rfl rfl hs.out (fun j hj => HZ6.out.some j hj) (fun j _ => FZ6.out (0 + j)) (m17_one 0 0 0 0 0 0 0 0 0 0 0 0 0 0 0 0 0) ?_; intro w7 hw7))
      have hL2 := run_loadVar_whole (P := Try.prog) (w := w7) 27 (w.heap.size + 1) 0 (([0, 0, 0, 0, 0, 0, 0, 0, 0, 0, 0, 0, 0, 0, 0, 0, 0] : List Int).map (Value.int .i64)) ha.out hs.out hw7.here
      have hok : okM (decM 8 L) L.length = false := by
        rw [HM.out, HLen.out]
        show (decide ((34 : Int) = 34) && rgtB (baseB m1 m2 m3 m4 m5) (kindB m0 m6 m7 m8 m9 m10 m11 m12 m13 m14 m15 m16)) = false
        rw [HR.out, Bool.and_false]
      refine bodyPost_ret (v := .tuple #[.agg (([0, 0, 0, 0, 0, 0, 0, 0, 0, 0, 0, 0, 0, 0, 0, 0, 0] : List Int).map (Value.int .i64)).toArray, .int .i64 5]) (results_cell_tmp 2 3 27 Try.results22 (w.heap.size + 1) 0 _ _ rfl hL2 rfl) rfl ⟨?_, hw7.below _ _ (by omega) H6.out⟩
      rw [show decL 8 L = [0, 0, 0, 0, 0, 0, 0, 0, 0, 0, 0, 0, 0, 0, 0, 0, 0] by unfold decL; rw [hok]; rfl, show decE 8 L = 5 by unfold decE; rw [hok]; rfl]
    · rw [show chkB (baseB m1 m2 m3 m4 m5) (kindB m0 m6 m7 m8 m9 m10 m11 m12 m13 m14 m15 m16) = 0 by rw [chk_of_rgt, hr]; rfl]
      rintro e1 w6 ⟨rfl, hb6⟩
      have HZ6 := Lib.hid (HZ5.out.keep hb6)
      have FZ6 := Lib.hid (show ∀ u, w6.frozen? ⟨w.heap.size + 1, u, none⟩ = false from fun u => ((bcell hb6).2 _ _ (by omega)).trans (FZ5.out u))
      have HQ6 := Lib.hid (HQ5.out.keep hb6)
      have H6 := Lib.hid (below_step H5.out hb6)
      have HR := Lib.hid hr
      clear hb6 hr HZ5 FZ5 H5 g17 HQ5 HC5
      go_wp2_with (first | ((with_reducible refine at_load 27 (.tmp 59) ?_); refine wpList_load_whole rfl (.tmp 59) 27 rfl w1.heap.size 0 (mMsg m0 m1 m2 m3 m4 m5 m6 m7 m8 m9 m10 m11 m12 m13 m14 m15 m16) rfl ha.out hs.out HQ6.out ?_) | ((with_reducible refine at_store 27 (.tmp 2) (.tmp 60) ?_); refine wpList_store_whole rfl (.tmp 2) (.tmp 60) 27 rfl (w.heap.size + 1) 0 (mMsg m0 m1 m2 m3 m4 m5 m6 m7 m8 m9 m10 m11 m12 m13 m14 m15 m16) rfl rfl hs.out (fun j hj => HZ6.out.some j (by simpa [mMsg] using hj)) (fun j _ => FZ6.out (0 + j)) (m17_one m0 m1 m2 m3 m4 m5 m6 m7 m8 m9 m10 m11 m12 m13 m14 m15 m16) ?_; intro w7 hw7))
      have hL2 := run_loadVar_whole (P := Try.prog) (w := w7) 27 (w.heap.size + 1) 0 (mMsg m0 m1 m2 m3 m4 m5 m6 m7 m8 m9 m10 m11 m12 m13 m14 m15 m16) ha.out hs.out hw7.here
      have hok : okM (decM 8 L) L.length = true := by
        rw [HM.out, HLen.out]
        show (decide ((34 : Int) = 34) && rgtB (baseB m1 m2 m3 m4 m5) (kindB m0 m6 m7 m8 m9 m10 m11 m12 m13 m14 m15 m16)) = true
        rw [HR.out]; rfl
      refine bodyPost_ret (v := .tuple #[.agg (mMsg m0 m1 m2 m3 m4 m5 m6 m7 m8 m9 m10 m11 m12 m13 m14 m15 m16).toArray, .int .i64 0]) (results_cell_tmp 2 3 27 Try.results22 (w.heap.size + 1) 0 _ _ rfl hL2 rfl) rfl ⟨?_, hw7.below _ _ (by omega) H6.out⟩
      rw [show decL 8 L = [m0, m1, m2, m3, m4, m5, m6, m7, m8, m9, m10, m11, m12, m13, m14, m15, m16] by unfold decL; rw [if_pos hok, HM.out]; rfl, show decE 8 L = 0 by unfold decE; rw [if_pos hok]]
      rfl
  · have H17 := Lib.hid h17
    go_wp2_with (((with_reducible refine at_store 27 (.tmp 2) (.tmp 56) ?_); refine wpList_store_whole rfl (.tmp 2) (.tmp 56) 27 rfl (w.heap.size + 1) 0 (([0, 0, 0, 0, 0, 0, 0, 0, 0, 0, 0, 0, 0, 0, 0, 0, 0] : List Int).map (Value.int .i64)) rfl rfl hs.out (fun j hj => HZ5.out.some j hj) (fun j _ => FZ5.out (0 + j)) (m17_one 0 0 0 0 0 0 0 0 0 0 0 0 0 0 0 0 0) ?_; intro w7 hw7))
    have hL2 := run_loadVar_whole (P := Try.prog) (w := w7) 27 (w.heap.size + 1) 0 (([0, 0, 0, 0, 0, 0, 0, 0, 0, 0, 0, 0, 0, 0, 0, 0, 0] : List Int).map (Value.int .i64)) ha.out hs.out hw7.here
    have hok : okM (decM 8 L) L.length = false := by
      rw [HM.out, HLen.out]
      show (decide (m17 = (34 : Int)) && rgtB (baseB m1 m2 m3 m4 m5) (kindB m0 m6 m7 m8 m9 m10 m11 m12 m13 m14 m15 m16)) = false
      rw [decide_eq_false H17.out, Bool.false_and]
    refine bodyPost_ret (v := .tuple #[.agg (([0, 0, 0, 0, 0, 0, 0, 0, 0, 0, 0, 0, 0, 0, 0, 0, 0] : List Int).map (Value.int .i64)).toArray, .int .i64 5]) (results_cell_tmp 2 3 27 Try.results22 (w.heap.size + 1) 0 _ _ rfl hL2 rfl) rfl ⟨?_, hw7.below _ _ (by omega) H5.out⟩
    rw [show decL 8 L = [0, 0, 0, 0, 0, 0, 0, 0, 0, 0, 0, 0, 0, 0, 0, 0, 0] by unfold decL; rw [hok]; rfl, show decE 8 L = 5 by unfold decE; rw [hok]; rfl]

set_option maxHeartbeats 16000000 in
set_option maxRecDepth 100000 in
theorem decode_11 (blk off cap : Nat) (L : List Int) (hL : Bytes L) (hlen : L.length = 36) (hk : L[0]? = some 11) (hcap : L.length ≤ cap) (hcl : cap ≤ 9223372036854775807) (w : World) (hl : Lies w blk off L) :
    Calls Try.prog 22 #[.slice (some ⟨blk, off, none⟩) L.length cap] w fun e1 w' => e1 = .returned (.tuple #[.agg ((decL 11 L).map (Value.int .i64)).toArray, .int .i64 (decE 11 L)]) ∧ Below w.heap.size w w' := by
  have ha := Lib.hid agg_msg
  have hs := Lib.hid size_msg
  have dw : w.cell? ⟨blk, off, none⟩ = some (.int .u8 11) := by simpa using hl 0 11 hk
  have zb : blk < w.heap.size := World.block_lt_of_cell? _ _ dw
  have HLen := Lib.hid hlen
  have HL := Lib.hid hl
  clear hl
  obtain ⟨m0, m1, m2, m3, m4, m5, m6, m7, m8, m9, m10, m11, m12, m13, m14, m15, m16, m17, hM⟩ := eighteen (decM_len 11 L)
  have HM := Lib.hid hM
  clear hM
  rw [hlen] at hcap ⊢
  clear hlen
  go_enter Try.func22, Try.ntmps22
  go_wp2_with fail
  refine (size_11 _).mono ?_
  rintro e1 w1 ⟨rfl, hb1⟩
  have c1 : w1.cell? ⟨w.heap.size, 0, none⟩ = some (.slice (some ⟨blk, off, none⟩) 36 cap) := below_keep hb1 (by simp [go_sem])
  have HZ1 := Lib.hid ((z17_holds w [.slice (some ⟨blk, off, none⟩) 36 cap] 44).keep hb1)
  have FZ1 := Lib.hid (show ∀ u, w1.frozen? ⟨w.heap.size + 1, u, none⟩ = false from fun u => by rw [(bcell hb1).2 _ _ (by simp)]; exact frozen_new _ _ _ _ (by simp))
  have H1 := Lib.hid (below_step (below_alloc (below_alloc (Below.refl _ _) _) _) hb1)
  have z1 : w.heap.size + 1 < w1.heap.size := World.block_lt_of_cell? _ _ (HZ1.out 0 _ rfl)
  have zb1 : blk < w1.heap.size := by omega
  have HL1 := Lib.hid (show Lies w1 blk off L from fun j x hx => (H1.out.cell zb).trans (HL.out j x hx))
  clear hb1 dw
  go_wp2_with fail
  refine (header_any _ _).mono ?_
  rintro e1 w2 ⟨bf, hb, rfl, hH, hB⟩
  have c2 : w2.cell? ⟨w.heap.size, 0, none⟩ = some (.slice (some ⟨blk, off, none⟩) 36 cap) := below_keep hB (cell_al (cell_al c1 _) _)
  have p2 : w2.cell? ⟨w1.heap.size + 1, 0, none⟩ = some (.int .i64 0) := below_keep hB (by simp [go_sem])
  have fp2 : w2.frozen? ⟨w1.heap.size + 1, 0, none⟩ = false := by rw [(bcell hB).2 _ _ (by simp)]; simp [go_sem]
  have fc2 : ∀ u, w2.frozen? ⟨w1.heap.size, u, none⟩ = false := fun u => by rw [(bcell hB).2 _ _ (by simp; omega)]; simp [go_sem]
  have HC2 := Lib.hid (((holds_alloc w1 (([0, 0, 0, 0, 0, 0, 0, 0, 0, 0, 0, 0, 0, 0, 0, 0, 0, 0] : List Int).map (Value.int .i64)) 70 rfl).alloc (by simp) _).keep hB)
  have HZ2 := Lib.hid (((HZ1.out.alloc z1 _).alloc (by simp; omega) _).keep hB)
  have FZ2 := Lib.hid (show ∀ u, w2.frozen? ⟨w.heap.size + 1, u, none⟩ = false from fun u => ((bcell hB).2 _ _ (by simp; omega)).trans (frozen_al (frozen_al (FZ1.out u) z1 _) (by simp; omega) _))
  have HL2 := Lib.hid (show Lies w2 blk off L from fun j x hx => below_keep hB (cell_al (cell_al (HL1.out j x hx) _) _))
  have H2 := Lib.hid (below_step (below_alloc (below_alloc H1.out _) _) hB)
  have z2 : w1.heap.size + 1 < w2.heap.size := World.block_lt_of_cell? _ _ p2
  have zf : bf < w2.heap.size := World.block_lt_of_cell? _ _ (hH 0 _ rfl)
  have HH := Lib.hid hH
  simp at hb
  clear hH hB c1 HZ1 FZ1 H1 HL1
  go_wp2_with fail
  rw [← HLen.out] at c2 hcap
  refine (visit_reads w.heap.size (w1.heap.size + 1) bf w1.heap.size blk off cap 0 hdrF hdr_fine hdr_sg (by decide) L hL [0, 0, 0, 0, 0, 0, 0, 0, 0, 0, 0, 0, 0, 0, 0, 0, 0, 0] (by unfold hdrF; simp) w2 c2 hcap hcl p2 fp2 HC2.out fc2 (by omega) HL2.out (by have := HLen.out; have h22 : totN hdrF = 22 := rfl; omega) (by omega) (by omega) (by omega) (by omega) (by omega) (by omega) HH.out zf (by omega) (by omega)).mono ?_
  rintro e1 w3 ⟨rfl, hc3, p3, fp3, fc3, b3⟩
  have z3 := b3.size
  have c3 : w3.cell? ⟨w.heap.size, 0, none⟩ = some (.slice (some ⟨blk, off, none⟩) L.length cap) := (b3.cell (by show w.heap.size < _; omega) (by show ¬ (w.heap.size = _ ∨ w.heap.size = _); omega)).trans c2
  have HC3 := Lib.hid hc3
  have HZ3 := Lib.hid (b3.holds HZ2.out (by omega) (by omega))
  have FZ3 := Lib.hid (show ∀ u, w3.frozen? ⟨w.heap.size + 1, u, none⟩ = false from fun u => (b3.frozen (by show w.heap.size + 1 < _; omega) (by show ¬ (w.heap.size + 1 = _ ∨ w.heap.size + 1 = _); omega)).trans (FZ2.out u))
  have HL3 := Lib.hid (HL2.out.but b3 (by omega) (by omega))
  have H3 := Lib.hid (H2.out.trans (b3.below (B := w.heap.size) (by omega) (by rintro k (rfl | rfl) <;> omega)))
  clear hc3 b3 c2 p2 fp2 fc2 HC2 HZ2 FZ2 HL2 H2 HH zf hb
  go_wp2_with fail
  refine (kinds_any _).mono ?_
  rintro e1 w9 ⟨rfl, rfl⟩
  have hlk := look_11 (W := w3.alloc (.map kindsM 6)) (MapKept.heap_alloc w3 _).1 false
  simp only [Bool.false_eq_true, ↓reduceIte] at hlk
  go_wp2_with fail
  refine (announce_any _ _).mono ?_
  rintro e1 w4 ⟨bg, hb, rfl, hH, hB⟩
  have H34 := Lib.hid (below_step (below_alloc (Below.refl _ w3) _) hB)
  have c4 : w4.cell? ⟨w.heap.size, 0, none⟩ = some (.slice (some ⟨blk, off, none⟩) L.length cap) := below_keep H34.out c3
  have p4 : w4.cell? ⟨w1.heap.size + 1, 0, none⟩ = some (.int .i64 ((22 : Nat) : Int)) := below_keep H34.out p3
  have fp4 : w4.frozen? ⟨w1.heap.size + 1, 0, none⟩ = false := ((bcell H34.out).2 _ _ (by omega)).trans fp3
  have fc4 : ∀ u, w4.frozen? ⟨w1.heap.size, u, none⟩ = false := fun u => ((bcell H34.out).2 _ _ (by omega)).trans (fc3 u)
  have HC4 := Lib.hid (HC3.out.keep H34.out)
  have HZ4 := Lib.hid (HZ3.out.keep H34.out)
  have FZ4 := Lib.hid (show ∀ u, w4.frozen? ⟨w.heap.size + 1, u, none⟩ = false from fun u => ((bcell H34.out).2 _ _ (by omega)).trans (FZ3.out u))
  have HL4 := Lib.hid (HL3.out.but (out := fun _ => False) (But.of_below H34.out) (by omega) (fun h => h))
  have H4 := Lib.hid (H3.out.trans (H34.out.mono (by omega)))
  have zg : bg < w4.heap.size := World.block_lt_of_cell? _ _ (hH 0 _ rfl)
  have z4 := H34.out.size
  have HH := Lib.hid hH
  simp at hb
  clear hH hB hlk c3 p3 fp3 fc3 HC3 HZ3 FZ3 HL3 H3 H34
  go_wp2_with fail
  refine (visit_reads w.heap.size (w1.heap.size + 1) bg w1.heap.size blk off cap 22 annF ann_fine ann_sg (by decide) L hL (rdF L hdrF 0 [0, 0, 0, 0, 0, 0, 0, 0, 0, 0, 0, 0, 0, 0, 0, 0, 0, 0]) (by rw [rdF_len]; unfold annF; simp) w4 c4 hcap hcl p4 fp4 HC4.out fc4 (by omega) HL4.out (by have := HLen.out; have h22 : totN annF = 14 := rfl; omega) (by omega) (by omega) (by omega) (by omega) (by omega) (by omega) HH.out zg (by omega) (by omega)).mono ?_
  rintro e1 w5 ⟨rfl, hc5, _, _, _, b5⟩
  have z5 : w1.heap.size + 1 < w5.heap.size := by have := b5.size; omega
  have HC5 := Lib.hid (show Holds w5 w1.heap.size ([m0, m1, m2, m3, m4, m5, m6, m7, m8, m9, m10, m11, m12, m13, m14, m15, m16, m17].map (Value.int .i64)) by rw [← HM.out]; exact hc5)
  have HZ5 := Lib.hid (b5.holds HZ4.out (by omega) (by omega))
  have FZ5 := Lib.hid (show ∀ u, w5.frozen? ⟨w.heap.size + 1, u, none⟩ = false from fun u => (b5.frozen (by show w.heap.size + 1 < _; omega) (by show ¬ (w.heap.size + 1 = _ ∨ w.heap.size + 1 = _); omega)).trans (FZ4.out u))
  have H5 := Lib.hid (H4.out.trans (b5.below (B := w.heap.size) (by omega) (by rintro k (rfl | rfl) <;> omega)))
  clear hc5 b5 c4 p4 fp4 fc4 HC4 HZ4 FZ4 HL4 H4 HH zg hb z4
  have g17 : w5.cell? ⟨w1.heap.size, 17, none⟩ = some (.int .i64 m17) := HC5.out 17 _ rfl
  have HQ5 := Lib.hid (show Holds w5 w1.heap.size (mMsg m0 m1 m2 m3 m4 m5 m6 m7 m8 m9 m10 m11 m12 m13 m14 m15 m16) from fun j v hv => HC5.out j v (by
    have hj : j < 17 := (List.getElem?_eq_some_iff.1 hv).1
    have := List.getElem?_append_left (l₁ := mMsg m0 m1 m2 m3 m4 m5 m6 m7 m8 m9 m10 m11 m12 m13 m14 m15 m16) (l₂ := [.int .i64 m17]) (show j < (mMsg m0 m1 m2 m3 m4 m5 m6 m7 m8 m9 m10 m11 m12 m13 m14 m15 m16).length from hj)
    rw [← this] at hv
    exact hv))
  by_cases h17 : m17 = 36
  · subst h17
    go_wp2_with (((with_reducible refine at_load 27 (.tmp 51) ?_); refine wpList_load_wanted (by rfl) (.tmp 51) 27 rfl w1.heap.size 0 (mMsg m0 m1 m2 m3 m4 m5 m6 m7 m8 m9 m10 m11 m12 m13 m14 m15 m16) rfl ha.out hs.out HQ5.out ?_))
    refine (ptpCheck_any m0 m1 m2 m3 m4 m5 m6 m7 m8 m9 m10 m11 m12 m13 m14 m15 m16 _).mono ?_
    cases hr : rgtB (baseB m1 m2 m3 m4 m5) (kindB m0 m6 m7 m8 m9 m10 m11 m12 m13 m14 m15 m16)
    · rw [show chkB (baseB m1 m2 m3 m4 m5) (kindB m0 m6 m7 m8 m9 m10 m11 m12 m13 m14 m15 m16) = 200 by rw [chk_of_rgt, hr]; rfl]
      rintro e1 w6 ⟨rfl, hb6⟩
      have HZ6 := Lib.hid (HZ5.out.keep hb6)
      have FZ6 := Lib.hid (show ∀ u, w6.frozen? ⟨w.heap.size + 1, u, none⟩ = false from fun u => ((bcell hb6).2 _ _ (by omega)).trans (FZ5.out u))
      have H6 := Lib.hid (below_step H5.out hb6)
      have HR := Lib.hid hr
      clear hb6 hr HZ5 FZ5 H5 g17 HQ5 HC5
      go_wp2_with (((with_reducible refine at_store 27 (.tmp 2) (.tmp 56) ?_); refine wpList_store_whole rfl (.tmp 2) (.tmp 56) 27 rfl (w.heap.size + 1) 0 (([0, 0, 0, 0, 0, 0, 0, 0, 0, 0, 0, 0, 0, 0, 0, 0, 0] : List Int).map (Value.int .i64)) rfl rfl hs.out (fun j hj => HZ6.out.some j hj) (fun j _ => FZ6.out (0 + j)) (m17_one 0 0 0 0 0 0 0 0 0 0 0 0 0 0 0 0 0) ?_; intro w7 hw7))
      have hL2 := run_loadVar_whole (P := Try.prog) (w := w7) 27 (w.heap.size + 1) 0 (([0, 0, 0, 0, 0, 0, 0, 0, 0, 0, 0, 0, 0, 0, 0, 0, 0] : List Int).map (Value.int .i64)) ha.out hs.out hw7.here
      have hok : okM (decM 11 L) L.length = false := by
        rw [HM.out, HLen.out]
        show (decide ((36 : Int) = 36) && rgtB (baseB m1 m2 m3 m4 m5) (kindB m0 m6 m7 m8 m9 m10 m11 m12 m13 m14 m15 m16)) = false
        rw [HR.out, Bool.and_false]
      refine bodyPost_ret (v := .tuple #[.agg (([0, 0, 0, 0, 0, 0, 0, 0, 0, 0, 0, 0, 0, 0, 0, 0, 0] : List Int).map (Value.int .i64)).toArray, .int .i64 5]) (results_cell_tmp 2 3 27 Try.results22 (w.heap.size + 1) 0 _ _ rfl hL2 rfl) rfl ⟨?_, hw7.below _ _ (by omega) H6.out⟩
      rw [show decL 11 L = [0, 0, 0, 0, 0, 0, 0, 0, 0, 0, 0, 0, 0, 0, 0, 0, 0] by unfold decL; rw [hok]; rfl, show decE 11 L = 5 by unfold decE; rw [hok]; rfl]
    · rw [show chkB (baseB m1 m2 m3 m4 m5) (kindB m0 m6 m7 m8 m9 m10 m11 m12 m13 m14 m15 m16) = 0 by rw [chk_of_rgt, hr]; rfl]
      rintro e1 w6 ⟨rfl, hb6⟩
      have HZ6 := Lib.hid (HZ5.out.keep hb6)
      have FZ6 := Lib.hid (show ∀ u, w6.frozen? ⟨w.heap.size + 1, u, none⟩ = false from fun u => ((bcell hb6).2 _ _ (by omega)).trans (FZ5.out u))
      have HQ6 := Lib.hid (HQ5.out.keep hb6)
      have H6 := Lib.hid (below_step H5.out hb6)
      have HR := Lib.hid hr
      clear hb6 hr HZ5 FZ5 H5 g17 HQ5 HC5
      go_wp2_with (first | ((with_reducible refine at_load 27 (.tmp 59) ?_); refine wpList_load_whole rfl (.tmp 59) 27 rfl w1.heap.size 0 (mMsg m0 m1 m2 m3 m4 m5 m6 m7 m8 m9 m10 m11 m12 m13 m14 m15 m16) rfl ha.out hs.out HQ6.out ?_) | ((with_reducible refine at_store 27 (.tmp 2) (.tmp 60) ?_); refine wpList_store_whole rfl (.tmp 2) (.tmp 60) 27 rfl (w.heap.size + 1) 0 (mMsg m0 m1 m2 m3 m4 m5 m6 m7 m8 m9 m10 m11 m12 m13 m14 m15 m16) rfl rfl hs.out (fun j hj => HZ6.out.some j (by simpa [mMsg] using hj)) (fun j _ => FZ6.out (0 + j)) (m17_one m0 m1 m2 m3 m4 m5 m6 m7 m8 m9 m10 m11 m12 m13 m14 m15 m16) ?_; intro w7 hw7))
      have hL2 := run_loadVar_whole (P := Try.prog) (w := w7) 27 (w.heap.size + 1) 0 (mMsg m0 m1 m2 m3 m4 m5 m6 m7 m8 m9 m10 m11 m12 m13 m14 m15 m16) ha.out hs.out hw7.here
      have hok : okM (decM 11 L) L.length = true := by
        rw [HM.out, HLen.out]
        show (decide ((36 : Int) = 36) && rgtB (baseB m1 m2 m3 m4 m5) (kindB m0 m6 m7 m8 m9 m10 m11 m12 m13 m14 m15 m16)) = true
        rw [HR.out]; rfl
      refine bodyPost_ret (v := .tuple #[.agg (mMsg m0 m1 m2 m3 m4 m5 m6 m7 m8 m9 m10 m11 m12 m13 m14 m15 m16).toArray, .int .i64 0]) (results_cell_tmp 2 3 27 Try.results22 (w.heap.size + 1) 0 _ _ rfl hL2 rfl) rfl ⟨?_, hw7.below _ _ (by omega) H6.out⟩
      rw [show decL 11 L = [m0, m1, m2, m3, m4, m5, m6, m7, m8, m9, m10, m11, m12, m13, m14, m15, m16] by unfold decL; rw [if_pos hok, HM.out]; rfl, show decE 11 L = 0 by unfold decE; rw [if_pos hok]]
      rfl
  · have H17 := Lib.hid h17
    go_wp2_with (((with_reducible refine at_store 27 (.tmp 2) (.tmp 56) ?_); refine wpList_store_whole rfl (.tmp 2) (.tmp 56) 27 rfl (w.heap.size + 1) 0 (([0, 0, 0, 0, 0, 0, 0, 0, 0, 0, 0, 0, 0, 0, 0, 0, 0] : List Int).map (Value.int .i64)) rfl rfl hs.out (fun j hj => HZ5.out.some j hj) (fun j _ => FZ5.out (0 + j)) (m17_one 0 0 0 0 0 0 0 0 0 0 0 0 0 0 0 0 0) ?_; intro w7 hw7))
    have hL2 := run_loadVar_whole (P := Try.prog) (w := w7) 27 (w.heap.size + 1) 0 (([0, 0, 0, 0, 0, 0, 0, 0, 0, 0, 0, 0, 0, 0, 0, 0, 0] : List Int).map (Value.int .i64)) ha.out hs.out hw7.here
    have hok : okM (decM 11 L) L.length = false := by
      rw [HM.out, HLen.out]
      show (decide (m17 = (36 : Int)) && rgtB (baseB m1 m2 m3 m4 m5) (kindB m0 m6 m7 m8 m9 m10 m11 m12 m13 m14 m15 m16)) = false
      rw [decide_eq_false H17.out, Bool.false_and]
    refine bodyPost_ret (v := .tuple #[.agg (([0, 0, 0, 0, 0, 0, 0, 0, 0, 0, 0, 0, 0, 0, 0, 0, 0] : List Int).map (Value.int .i64)).toArray, .int .i64 5]) (results_cell_tmp 2 3 27 Try.results22 (w.heap.size + 1) 0 _ _ rfl hL2 rfl) rfl ⟨?_, hw7.below _ _ (by omega) H5.out⟩
    rw [show decL 11 L = [0, 0, 0, 0, 0, 0, 0, 0, 0, 0, 0, 0, 0, 0, 0, 0, 0] by unfold decL; rw [hok]; rfl, show decE 11 L = 5 by unfold decE; rw [hok]; rfl]

set_option maxHeartbeats 4000000 in
set_option maxRecDepth 100000 in
theorem decode_empty (a : Option Addr) (cap : Nat) (w : World) :
    Calls Try.prog 22 #[.slice a 0 cap] w fun e1 w' => e1 = .returned (.tuple #[.agg (([0, 0, 0, 0, 0, 0, 0, 0, 0, 0, 0, 0, 0, 0, 0, 0, 0] : List Int).map (Value.int .i64)).toArray, .int .i64 5]) ∧ Below w.heap.size w w' := by
  have ha := Lib.hid agg_msg
  have hs := Lib.hid size_msg
  go_enter Try.func22, Try.ntmps22
  go_wp2_with (((with_reducible refine at_store 27 (.tmp 2) (.tmp 12) ?_); refine wpList_store_whole rfl (.tmp 2) (.tmp 12) 27 rfl (w.heap.size + 1) 0 (([0, 0, 0, 0, 0, 0, 0, 0, 0, 0, 0, 0, 0, 0, 0, 0, 0] : List Int).map (Value.int .i64)) rfl rfl hs.out (fun j hj => (holds_alloc _ (([0, 0, 0, 0, 0, 0, 0, 0, 0, 0, 0, 0, 0, 0, 0, 0, 0] : List Int).map (Value.int .i64)) 27 (by simp)).some j hj) (fun j _ => (fun u => frozen_new _ _ _ u (by simp)) (0 + j)) (m17_one 0 0 0 0 0 0 0 0 0 0 0 0 0 0 0 0 0) ?_; intro w7 hw7))
  have hL2 := run_loadVar_whole (P := Try.prog) (w := w7) 27 (w.heap.size + 1) 0 (([0, 0, 0, 0, 0, 0, 0, 0, 0, 0, 0, 0, 0, 0, 0, 0, 0] : List Int).map (Value.int .i64)) ha.out hs.out hw7.here
  exact bodyPost_ret (v := .tuple #[.agg (([0, 0, 0, 0, 0, 0, 0, 0, 0, 0, 0, 0, 0, 0, 0, 0, 0] : List Int).map (Value.int .i64)).toArray, .int .i64 5]) (results_cell_tmp 2 3 27 Try.results22 (w.heap.size + 1) 0 _ _ rfl hL2 rfl) rfl ⟨rfl, hw7.below _ _ (by omega) (below_alloc (below_alloc (Below.refl _ _) _) _)⟩

set_option maxHeartbeats 8000000 in
set_option maxRecDepth 100000 in
theorem decode_bad (blk off cap : Nat) (L : List Int) (k : Int) (hlen : 1 ≤ L.length) (hk : L[0]? = some k) (hk0 : 0 ≤ k) (hk1 : k ≤ 255) (_hcap : L.length ≤ cap) (_hcl : cap ≤ 9223372036854775807) (w : World) (hl : Lies w blk off L) (hbad : sizeV k = 0 ∨ (L.length : Int) ≠ sizeV k) :
    Calls Try.prog 22 #[.slice (some ⟨blk, off, none⟩) L.length cap] w fun e1 w' => e1 = .returned (.tuple #[.agg (([0, 0, 0, 0, 0, 0, 0, 0, 0, 0, 0, 0, 0, 0, 0, 0, 0] : List Int).map (Value.int .i64)).toArray, .int .i64 5]) ∧ Below w.heap.size w w' := by
  have ha := Lib.hid agg_msg
  have hs := Lib.hid size_msg
  have dw : w.cell? ⟨blk, off, none⟩ = some (.int .u8 k) := by simpa using hl 0 k hk
  have zb : blk < w.heap.size := World.block_lt_of_cell? _ _ dw
  have hz := sizeV_bd k
  generalize hN : L.length = N at *
  have hn1 : (1 : Int) ≤ (N : Int) := by omega
  go_enter Try.func22, Try.ntmps22
  go_wp2_with fail
  refine (size_any k _).mono ?_
  generalize sizeV k = sz at *
  rintro e1 w1 ⟨rfl, hb1⟩
  have c1 : w1.cell? ⟨w.heap.size, 0, none⟩ = some (.slice (some ⟨blk, off, none⟩) N cap) := below_keep hb1 (by simp [go_sem])
  have HZ1 := Lib.hid ((z17_holds w [.slice (some ⟨blk, off, none⟩) N cap] 44).keep hb1)
  have FZ1 := Lib.hid (show ∀ u, w1.frozen? ⟨w.heap.size + 1, u, none⟩ = false from fun u => by rw [(bcell hb1).2 _ _ (by simp)]; exact frozen_new _ _ _ _ (by simp))
  have H1 := Lib.hid (below_step (below_alloc (below_alloc (Below.refl _ _) _) _) hb1)
  clear hb1 dw
  by_cases h0 : sz = 0
  · subst h0
    clear hbad
    go_wp2_with (((with_reducible refine at_store 27 (.tmp 2) (.tmp 27) ?_); refine wpList_store_whole rfl (.tmp 2) (.tmp 27) 27 rfl (w.heap.size + 1) 0 (([0, 0, 0, 0, 0, 0, 0, 0, 0, 0, 0, 0, 0, 0, 0, 0, 0] : List Int).map (Value.int .i64)) rfl rfl hs.out (fun j hj => HZ1.out.some j hj) (fun j _ => FZ1.out (0 + j)) (m17_one 0 0 0 0 0 0 0 0 0 0 0 0 0 0 0 0 0) ?_; intro w7 hw7))
    have hL2 := run_loadVar_whole (P := Try.prog) (w := w7) 27 (w.heap.size + 1) 0 (([0, 0, 0, 0, 0, 0, 0, 0, 0, 0, 0, 0, 0, 0, 0, 0, 0] : List Int).map (Value.int .i64)) ha.out hs.out hw7.here
    exact bodyPost_ret (v := .tuple #[.agg (([0, 0, 0, 0, 0, 0, 0, 0, 0, 0, 0, 0, 0, 0, 0, 0, 0] : List Int).map (Value.int .i64)).toArray, .int .i64 5]) (results_cell_tmp 2 3 27 Try.results22 (w.heap.size + 1) 0 _ _ rfl hL2 rfl) rfl ⟨rfl, hw7.below _ _ (by omega) (H1.out)⟩
  · have hne : ((N : Int) == sz) = false := beq_eq_false_iff_ne.2 (hbad.resolve_left h0)
    have h0b : (sz == 0) = false := beq_eq_false_iff_ne.2 h0
    clear hbad h0
    go_wp2_with (((with_reducible refine at_store 27 (.tmp 2) (.tmp 27) ?_); refine wpList_store_whole rfl (.tmp 2) (.tmp 27) 27 rfl (w.heap.size + 1) 0 (([0, 0, 0, 0, 0, 0, 0, 0, 0, 0, 0, 0, 0, 0, 0, 0, 0] : List Int).map (Value.int .i64)) rfl rfl hs.out (fun j hj => HZ1.out.some j hj) (fun j _ => FZ1.out (0 + j)) (m17_one 0 0 0 0 0 0 0 0 0 0 0 0 0 0 0 0 0) ?_; intro w7 hw7))
    have hL2 := run_loadVar_whole (P := Try.prog) (w := w7) 27 (w.heap.size + 1) 0 (([0, 0, 0, 0, 0, 0, 0, 0, 0, 0, 0, 0, 0, 0, 0, 0, 0] : List Int).map (Value.int .i64)) ha.out hs.out hw7.here
    exact bodyPost_ret (v := .tuple #[.agg (([0, 0, 0, 0, 0, 0, 0, 0, 0, 0, 0, 0, 0, 0, 0, 0, 0] : List Int).map (Value.int .i64)).toArray, .int .i64 5]) (results_cell_tmp 2 3 27 Try.results22 (w.heap.size + 1) 0 _ _ rfl hL2 rfl) rfl ⟨rfl, hw7.below _ _ (by omega) (H1.out)⟩

/-- ptp.Decode of some bytes: what it hands back. -/
def decRes : List Int → List Int
  | [] => [0, 0, 0, 0, 0, 0, 0, 0, 0, 0, 0, 0, 0, 0, 0, 0, 0]
  | k :: r => if sizeV k ≠ 0 ∧ ((k :: r).length : Int) = sizeV k then decL k (k :: r) else [0, 0, 0, 0, 0, 0, 0, 0, 0, 0, 0, 0, 0, 0, 0, 0, 0]
def decErr : List Int → Int
  | [] => 5
  | k :: r => if sizeV k ≠ 0 ∧ ((k :: r).length : Int) = sizeV k then decE k (k :: r) else 5

theorem decode_any (blk off cap : Nat) (L : List Int) (hL : Bytes L) (h1 : 1 ≤ L.length) (hcap : L.length ≤ cap) (hcl : cap ≤ 9223372036854775807) (w : World) (hl : Lies w blk off L) :
    Calls Try.prog 22 #[.slice (some ⟨blk, off, none⟩) L.length cap] w fun e1 w' => e1 = .returned (.tuple #[.agg ((decRes L).map (Value.int .i64)).toArray, .int .i64 (decErr L)]) ∧ Below w.heap.size w w' := by
  match L, h1 with
  | k :: r, _ =>
    have hb := hL k (by simp)
    by_cases hg : sizeV k ≠ 0 ∧ ((k :: r).length : Int) = sizeV k
    · rw [show decRes (k :: r) = decL k (k :: r) from if_pos hg, show decErr (k :: r) = decE k (k :: r) from if_pos hg]
      have hk : k = 0 ∨ k = 2 ∨ k = 3 ∨ k = 10 ∨ k = 8 ∨ k = 11 := by
        have h0 := hg.1
        unfold sizeV at h0
        (repeat' split at h0) <;> first | omega | exact absurd rfl h0
      rcases hk with rfl | rfl | rfl | rfl | rfl | rfl
      · exact decode_0 blk off cap (0 :: r) hL (by have h2 : ((0 :: r).length : Int) = 22 := hg.2; omega) rfl hcap hcl w hl
      · exact decode_2 blk off cap (2 :: r) hL (by have h2 : ((2 :: r).length : Int) = 22 := hg.2; omega) rfl hcap hcl w hl
      · exact decode_3 blk off cap (3 :: r) hL (by have h2 : ((3 :: r).length : Int) = 38 := hg.2; omega) rfl hcap hcl w hl
      · exact decode_10 blk off cap (10 :: r) hL (by have h2 : ((10 :: r).length : Int) = 38 := hg.2; omega) rfl hcap hcl w hl
      · exact decode_8 blk off cap (8 :: r) hL (by have h2 : ((8 :: r).length : Int) = 34 := hg.2; omega) rfl hcap hcl w hl
      · exact decode_11 blk off cap (11 :: r) hL (by have h2 : ((11 :: r).length : Int) = 36 := hg.2; omega) rfl hcap hcl w hl
    · rw [show decRes (k :: r) = [0, 0, 0, 0, 0, 0, 0, 0, 0, 0, 0, 0, 0, 0, 0, 0, 0] from if_neg hg, show decErr (k :: r) = 5 from if_neg hg]
      exact decode_bad blk off cap (k :: r) k (by simp) rfl hb.1 hb.2 hcap hcl w hl (by
        by_cases h0 : sizeV k = 0
        · exact Or.inl h0
        · exact Or.inr fun e => hg ⟨h0, e⟩)

end Go.Proofs.Ytecengclcaodeaa
