/-
  ptp.Size. No conditions.
-/
import Derived.Test.YtecengclcaodeaaEncV
import Derived.Test.YtecengclcaodeaaEncK
namespace Go.Proofs.Ytecengclcaodeaa
open Go.RowKit Go.Lib Plain

/-- The bytes of some fields. -/
def tot : List Fld → Int
  | [] => 0
  | f :: r => f.2.1 + tot r
def Fine (l : List Fld) : Prop := ∀ f ∈ l, 1 ≤ f.2.1 ∧ f.2.1 ≤ 8
theorem hdr_fine : Fine hdrF := by unfold Fine hdrF; decide
theorem rsp_fine : Fine rspF := by unfold Fine rspF; decide
theorem fol_fine : Fine folF := by unfold Fine folF; decide
theorem ann_fine : Fine annF := by unfold Fine annF; decide
theorem tot_take {l : List Fld} {k : Nat} {f : Fld} (h : l[k]? = some f) : tot (l.take (k + 1)) = tot (l.take k) + f.2.1 := by
  induction l generalizing k with
  | nil => simp at h
  | cons g r ih =>
    cases k with
    | zero => simp at h; subst h; simp [tot]
    | succ k =>
      have := ih (k := k) (by simpa using h)
      simp only [List.take_succ_cons, tot] at this ⊢
      omega
theorem tot_pos {l : List Fld} (h : Fine l) : 0 ≤ tot l := by
  induction l with
  | nil => exact Int.le_refl _
  | cons g r ih =>
    have h1 := h g (by simp)
    have h2 := ih fun f hf => h f (by simp [hf])
    simp only [tot]
    omega
theorem tot_le {l : List Fld} (h : Fine l) : tot l ≤ 8 * l.length := by
  induction l with
  | nil => exact Int.le_refl _
  | cons g r ih =>
    have h1 := h g (by simp)
    have h2 := ih fun f hf => h f (by simp [hf])
    simp only [tot, List.length_cons]
    omega
theorem Fine.take {l : List Fld} (h : Fine l) (k : Nat) : Fine (l.take k) := fun f hf => h f (List.mem_of_mem_take hf)

set_option maxHeartbeats 4000000 in
theorem count_any (q : Value) (n : Int) (g : Bool) (p : Nat) (s : Int) (w : World) (hs : w.cell? ⟨p, 0, none⟩ = some (.int .i64 s)) (hf : w.frozen? ⟨p, 0, none⟩ = false) (b0 : 0 ≤ s) (b1 : s ≤ 1000) (n0 : 0 ≤ n) (n1 : n ≤ 8) :
    Calls Try.prog 31 #[.agg #[q, .int .i64 n, .bool g], .pointer (some ⟨p, 0, none⟩)] w fun e w' => e = .returned (.tuple #[]) ∧ But (· = p) w w' ∧ w'.cell? ⟨p, 0, none⟩ = some (.int .i64 (s + n)) ∧ w'.frozen? ⟨p, 0, none⟩ = false := by
  have hl : p < w.heap.size := World.block_lt_of_cell? _ _ hs
  have hl1 : ¬ p = w.heap.size := by omega
  go_enter Try.func31, Try.ntmps31
  go_wp2
  go_end0
  exact ⟨rfl, (But.set (out := fun x => x = p) But.refl (fun _ => rfl) _).alloc _, by simp [go_sem, *], by simp [go_sem, *]⟩

/-- visit, counting. -/
theorem visit_counts (p b c : Nat) (fs : List Fld) (hfs : Fine fs) (hn : fs.length ≤ 100) (s : Int) (w : World) (hs : w.cell? ⟨p, 0, none⟩ = some (.int .i64 s)) (hf : w.frozen? ⟨p, 0, none⟩ = false) (b0 : 0 ≤ s) (b1 : s ≤ 100) (hH : Holds w b (fldL c fs)) (hb : b < w.heap.size) (hne : ¬ b = p) :
    Calls Try.prog 32 #[.func (.func 31) #[] #[.pointer (some ⟨p, 0, none⟩)], .slice (some ⟨b, 0, none⟩) fs.length fs.length] w fun e w' => e = .returned (.tuple #[]) ∧ But (· = p) w w' ∧ w'.cell? ⟨p, 0, none⟩ = some (.int .i64 (s + tot fs)) ∧ w'.frozen? ⟨p, 0, none⟩ = false := by
  have hp : p < w.heap.size := World.block_lt_of_cell? _ _ hs
  refine (visit_count p b c fs (fun k W => But (· = p) w W ∧ W.cell? ⟨p, 0, none⟩ = some (.int .i64 (s + tot (fs.take k))) ∧ W.frozen? ⟨p, 0, none⟩ = false) (fun k W h => h.1.holds hH hb hne)
    (fun k W o h => ⟨h.1.alloc o, by rw [World.cell?_alloc_lt _ _ _ (World.block_lt_of_cell? _ _ h.2.1)]; exact h.2.1, by rw [World.frozen?_alloc_old _ _ _ (Nat.ne_of_lt (World.block_lt_of_cell? _ _ h.2.1))]; exact h.2.2⟩)
    (fun k i n g hk W h => ?_) hn w ⟨But.refl, by simpa [tot] using hs, hf⟩).mono fun e w' h => ⟨h.1, h.2.1, by simpa using h.2.2.1, h.2.2.2⟩
  have h1 : 1 ≤ n ∧ n ≤ 8 := hfs (i, n, g) (List.mem_of_getElem? hk)
  have h2 := tot_pos (hfs.take k)
  have h3 := tot_le (hfs.take k)
  have h4 : (fs.take k).length ≤ 100 := by rw [List.length_take]; omega
  refine (count_any _ n g p _ W h.2.1 h.2.2 (by omega) (by omega) (by omega) h1.2).mono fun e w' k' => ⟨k'.1, h.1.step k'.2.1, ?_, k'.2.2.2⟩
  rw [tot_take hk, ← Int.add_assoc]
  exact k'.2.2.1

/-- A kind's length. -/
def sizeV (K : Int) : Int := if K = 0 ∨ K = 2 then 22 else if K = 3 ∨ K = 10 then 38 else if K = 8 then 34 else if K = 11 then 36 else 0
theorem sizeV_bd (K : Int) : 0 ≤ sizeV K ∧ sizeV K ≤ 38 := by
  unfold sizeV
  repeat' split
  all_goals decide

set_option maxHeartbeats 8000000 in
set_option maxRecDepth 100000 in
theorem size_0 (w : World) : Calls Try.prog 13 #[.int .i64 0] w fun e w' => e = .returned (.int .i64 22) ∧ Below w.heap.size w w' := by
  go_enter Try.func13, Try.ntmps13
  go_wp2_with fail
  refine (kinds_any _).mono ?_
  rintro e w1 ⟨rfl, rfl⟩
  have hl := look_0 (W := w.alloc (.map kindsM 6)) (MapKept.heap_alloc w _).1 true
  simp only [if_true] at hl
  go_wp2_with fail
  refine (header_any _ _).mono ?_
  rintro e w2 ⟨b, hb, rfl, hH, hB⟩
  have c0 : w2.cell? ⟨w.heap.size + 2, 0, none⟩ = some (.int .i64 0) := below_keep hB (by simp [go_sem])
  have f0 : w2.frozen? ⟨w.heap.size + 2, 0, none⟩ = false := by rw [(bcell hB).2 _ _ (by simp)]; simp [go_sem]
  have z0 : w.heap.size + 2 < w2.heap.size := World.block_lt_of_cell? _ _ c0
  have zb : b < w2.heap.size := World.block_lt_of_cell? _ _ (hH 0 _ rfl)
  simp at hb
  have H2 := Lib.hid (below_step (below_alloc (below_alloc (below_alloc (Below.refl _ _) _) _) _) hB)
  have HH := Lib.hid hH
  clear hB hl hH
  go_wp2_with fail
  refine (visit_counts _ _ _ hdrF hdr_fine (by decide) 0 _ c0 f0 (by omega) (by omega) HH.out zb (by omega)).mono ?_
  rintro e w3 ⟨rfl, h3, c3, f3⟩
  have c3 : w3.cell? ⟨w.heap.size + 2, 0, none⟩ = some (.int .i64 22) := c3
  have H3 := Lib.hid (H2.out.trans (h3.below (B := w.heap.size) (by omega) (by rintro k rfl; omega)))
  have z3 : w.heap.size + 2 < w3.heap.size := World.block_lt_of_cell? _ _ c3
  clear h3 H2 c0 f0 z0 zb hb HH
  go_wp2_with fail
  refine (plain_any _ _).mono ?_
  rintro e w4 ⟨rfl, rfl⟩
  go_wp2_with fail
  refine (visit_none _ _).mono ?_
  rintro e w5 ⟨rfl, rfl⟩
  go_wp2
  go_ret
  exact ⟨rfl, H3.out⟩

set_option maxHeartbeats 8000000 in
set_option maxRecDepth 100000 in
theorem size_2 (w : World) : Calls Try.prog 13 #[.int .i64 2] w fun e w' => e = .returned (.int .i64 22) ∧ Below w.heap.size w w' := by
  go_enter Try.func13, Try.ntmps13
  go_wp2_with fail
  refine (kinds_any _).mono ?_
  rintro e w1 ⟨rfl, rfl⟩
  have hl := look_2 (W := w.alloc (.map kindsM 6)) (MapKept.heap_alloc w _).1 true
  simp only [if_true] at hl
  go_wp2_with fail
  refine (header_any _ _).mono ?_
  rintro e w2 ⟨b, hb, rfl, hH, hB⟩
  have c0 : w2.cell? ⟨w.heap.size + 2, 0, none⟩ = some (.int .i64 0) := below_keep hB (by simp [go_sem])
  have f0 : w2.frozen? ⟨w.heap.size + 2, 0, none⟩ = false := by rw [(bcell hB).2 _ _ (by simp)]; simp [go_sem]
  have z0 : w.heap.size + 2 < w2.heap.size := World.block_lt_of_cell? _ _ c0
  have zb : b < w2.heap.size := World.block_lt_of_cell? _ _ (hH 0 _ rfl)
  simp at hb
  have H2 := Lib.hid (below_step (below_alloc (below_alloc (below_alloc (Below.refl _ _) _) _) _) hB)
  have HH := Lib.hid hH
  clear hB hl hH
  go_wp2_with fail
  refine (visit_counts _ _ _ hdrF hdr_fine (by decide) 0 _ c0 f0 (by omega) (by omega) HH.out zb (by omega)).mono ?_
  rintro e w3 ⟨rfl, h3, c3, f3⟩
  have c3 : w3.cell? ⟨w.heap.size + 2, 0, none⟩ = some (.int .i64 22) := c3
  have H3 := Lib.hid (H2.out.trans (h3.below (B := w.heap.size) (by omega) (by rintro k rfl; omega)))
  have z3 : w.heap.size + 2 < w3.heap.size := World.block_lt_of_cell? _ _ c3
  clear h3 H2 c0 f0 z0 zb hb HH
  go_wp2_with fail
  refine (plain_any _ _).mono ?_
  rintro e w4 ⟨rfl, rfl⟩
  go_wp2_with fail
  refine (visit_none _ _).mono ?_
  rintro e w5 ⟨rfl, rfl⟩
  go_wp2
  go_ret
  exact ⟨rfl, H3.out⟩

set_option maxHeartbeats 8000000 in
set_option maxRecDepth 100000 in
theorem size_3 (w : World) : Calls Try.prog 13 #[.int .i64 3] w fun e w' => e = .returned (.int .i64 38) ∧ Below w.heap.size w w' := by
  go_enter Try.func13, Try.ntmps13
  go_wp2_with fail
  refine (kinds_any _).mono ?_
  rintro e w1 ⟨rfl, rfl⟩
  have hl := look_3 (W := w.alloc (.map kindsM 6)) (MapKept.heap_alloc w _).1 true
  simp only [if_true] at hl
  go_wp2_with fail
  refine (header_any _ _).mono ?_
  rintro e w2 ⟨b, hb, rfl, hH, hB⟩
  have c0 : w2.cell? ⟨w.heap.size + 2, 0, none⟩ = some (.int .i64 0) := below_keep hB (by simp [go_sem])
  have f0 : w2.frozen? ⟨w.heap.size + 2, 0, none⟩ = false := by rw [(bcell hB).2 _ _ (by simp)]; simp [go_sem]
  have z0 : w.heap.size + 2 < w2.heap.size := World.block_lt_of_cell? _ _ c0
  have zb : b < w2.heap.size := World.block_lt_of_cell? _ _ (hH 0 _ rfl)
  simp at hb
  have H2 := Lib.hid (below_step (below_alloc (below_alloc (below_alloc (Below.refl _ _) _) _) _) hB)
  have HH := Lib.hid hH
  clear hB hl hH
  go_wp2_with fail
  refine (visit_counts _ _ _ hdrF hdr_fine (by decide) 0 _ c0 f0 (by omega) (by omega) HH.out zb (by omega)).mono ?_
  rintro e w3 ⟨rfl, h3, c3, f3⟩
  have c3 : w3.cell? ⟨w.heap.size + 2, 0, none⟩ = some (.int .i64 22) := c3
  have H3 := Lib.hid (H2.out.trans (h3.below (B := w.heap.size) (by omega) (by rintro k rfl; omega)))
  have z3 : w.heap.size + 2 < w3.heap.size := World.block_lt_of_cell? _ _ c3
  clear h3 H2 c0 f0 z0 zb hb HH
  go_wp2_with fail
  refine (response_any _ _).mono ?_
  rintro e w4 ⟨b, hb, rfl, hH, hB⟩
  have c4 : w4.cell? ⟨w.heap.size + 2, 0, none⟩ = some (.int .i64 22) := below_keep hB c3
  have f4 : w4.frozen? ⟨w.heap.size + 2, 0, none⟩ = false := by rw [(bcell hB).2 _ _ z3]; exact f3
  have zb : b < w4.heap.size := World.block_lt_of_cell? _ _ (hH 0 _ rfl)
  have H4 := Lib.hid (below_step H3.out hB)
  have HH := Lib.hid hH
  clear hB hH c3 f3 H3
  go_wp2_with fail
  refine (visit_counts _ _ _ rspF rsp_fine (by decide) 22 _ c4 f4 (by omega) (by omega) HH.out zb (by omega)).mono ?_
  rintro e w5 ⟨rfl, h5, c5, f5⟩
  have c5 : w5.cell? ⟨w.heap.size + 2, 0, none⟩ = some (.int .i64 38) := c5
  have H5 := Lib.hid (H4.out.trans (h5.below (B := w.heap.size) (by have := World.block_lt_of_cell? _ _ c4; omega) (by rintro k rfl; omega)))
  clear h5 H4
  go_wp2
  go_ret
  exact ⟨rfl, H5.out⟩

set_option maxHeartbeats 8000000 in
set_option maxRecDepth 100000 in
theorem size_10 (w : World) : Calls Try.prog 13 #[.int .i64 10] w fun e w' => e = .returned (.int .i64 38) ∧ Below w.heap.size w w' := by
  go_enter Try.func13, Try.ntmps13
  go_wp2_with fail
  refine (kinds_any _).mono ?_
  rintro e w1 ⟨rfl, rfl⟩
  have hl := look_10 (W := w.alloc (.map kindsM 6)) (MapKept.heap_alloc w _).1 true
  simp only [if_true] at hl
  go_wp2_with fail
  refine (header_any _ _).mono ?_
  rintro e w2 ⟨b, hb, rfl, hH, hB⟩
  have c0 : w2.cell? ⟨w.heap.size + 2, 0, none⟩ = some (.int .i64 0) := below_keep hB (by simp [go_sem])
  have f0 : w2.frozen? ⟨w.heap.size + 2, 0, none⟩ = false := by rw [(bcell hB).2 _ _ (by simp)]; simp [go_sem]
  have z0 : w.heap.size + 2 < w2.heap.size := World.block_lt_of_cell? _ _ c0
  have zb : b < w2.heap.size := World.block_lt_of_cell? _ _ (hH 0 _ rfl)
  simp at hb
  have H2 := Lib.hid (below_step (below_alloc (below_alloc (below_alloc (Below.refl _ _) _) _) _) hB)
  have HH := Lib.hid hH
  clear hB hl hH
  go_wp2_with fail
  refine (visit_counts _ _ _ hdrF hdr_fine (by decide) 0 _ c0 f0 (by omega) (by omega) HH.out zb (by omega)).mono ?_
  rintro e w3 ⟨rfl, h3, c3, f3⟩
  have c3 : w3.cell? ⟨w.heap.size + 2, 0, none⟩ = some (.int .i64 22) := c3
  have H3 := Lib.hid (H2.out.trans (h3.below (B := w.heap.size) (by omega) (by rintro k rfl; omega)))
  have z3 : w.heap.size + 2 < w3.heap.size := World.block_lt_of_cell? _ _ c3
  clear h3 H2 c0 f0 z0 zb hb HH
  go_wp2_with fail
  refine (response_any _ _).mono ?_
  rintro e w4 ⟨b, hb, rfl, hH, hB⟩
  have c4 : w4.cell? ⟨w.heap.size + 2, 0, none⟩ = some (.int .i64 22) := below_keep hB c3
  have f4 : w4.frozen? ⟨w.heap.size + 2, 0, none⟩ = false := by rw [(bcell hB).2 _ _ z3]; exact f3
  have zb : b < w4.heap.size := World.block_lt_of_cell? _ _ (hH 0 _ rfl)
  have H4 := Lib.hid (below_step H3.out hB)
  have HH := Lib.hid hH
  clear hB hH c3 f3 H3
  go_wp2_with fail
  refine (visit_counts _ _ _ rspF rsp_fine (by decide) 22 _ c4 f4 (by omega) (by omega) HH.out zb (by omega)).mono ?_
  rintro e w5 ⟨rfl, h5, c5, f5⟩
  have c5 : w5.cell? ⟨w.heap.size + 2, 0, none⟩ = some (.int .i64 38) := c5
  have H5 := Lib.hid (H4.out.trans (h5.below (B := w.heap.size) (by have := World.block_lt_of_cell? _ _ c4; omega) (by rintro k rfl; omega)))
  clear h5 H4
  go_wp2
  go_ret
  exact ⟨rfl, H5.out⟩

set_option maxHeartbeats 8000000 in
set_option maxRecDepth 100000 in
theorem size_8 (w : World) : Calls Try.prog 13 #[.int .i64 8] w fun e w' => e = .returned (.int .i64 34) ∧ Below w.heap.size w w' := by
  go_enter Try.func13, Try.ntmps13
  go_wp2_with fail
  refine (kinds_any _).mono ?_
  rintro e w1 ⟨rfl, rfl⟩
  have hl := look_8 (W := w.alloc (.map kindsM 6)) (MapKept.heap_alloc w _).1 true
  simp only [if_true] at hl
  go_wp2_with fail
  refine (header_any _ _).mono ?_
  rintro e w2 ⟨b, hb, rfl, hH, hB⟩
  have c0 : w2.cell? ⟨w.heap.size + 2, 0, none⟩ = some (.int .i64 0) := below_keep hB (by simp [go_sem])
  have f0 : w2.frozen? ⟨w.heap.size + 2, 0, none⟩ = false := by rw [(bcell hB).2 _ _ (by simp)]; simp [go_sem]
  have z0 : w.heap.size + 2 < w2.heap.size := World.block_lt_of_cell? _ _ c0
  have zb : b < w2.heap.size := World.block_lt_of_cell? _ _ (hH 0 _ rfl)
  simp at hb
  have H2 := Lib.hid (below_step (below_alloc (below_alloc (below_alloc (Below.refl _ _) _) _) _) hB)
  have HH := Lib.hid hH
  clear hB hl hH
  go_wp2_with fail
  refine (visit_counts _ _ _ hdrF hdr_fine (by decide) 0 _ c0 f0 (by omega) (by omega) HH.out zb (by omega)).mono ?_
  rintro e w3 ⟨rfl, h3, c3, f3⟩
  have c3 : w3.cell? ⟨w.heap.size + 2, 0, none⟩ = some (.int .i64 22) := c3
  have H3 := Lib.hid (H2.out.trans (h3.below (B := w.heap.size) (by omega) (by rintro k rfl; omega)))
  have z3 : w.heap.size + 2 < w3.heap.size := World.block_lt_of_cell? _ _ c3
  clear h3 H2 c0 f0 z0 zb hb HH
  go_wp2_with fail
  refine (follow_any _ _).mono ?_
  rintro e w4 ⟨b, hb, rfl, hH, hB⟩
  have c4 : w4.cell? ⟨w.heap.size + 2, 0, none⟩ = some (.int .i64 22) := below_keep hB c3
  have f4 : w4.frozen? ⟨w.heap.size + 2, 0, none⟩ = false := by rw [(bcell hB).2 _ _ z3]; exact f3
  have zb : b < w4.heap.size := World.block_lt_of_cell? _ _ (hH 0 _ rfl)
  have H4 := Lib.hid (below_step H3.out hB)
  have HH := Lib.hid hH
  clear hB hH c3 f3 H3
  go_wp2_with fail
  refine (visit_counts _ _ _ folF fol_fine (by decide) 22 _ c4 f4 (by omega) (by omega) HH.out zb (by omega)).mono ?_
  rintro e w5 ⟨rfl, h5, c5, f5⟩
  have c5 : w5.cell? ⟨w.heap.size + 2, 0, none⟩ = some (.int .i64 34) := c5
  have H5 := Lib.hid (H4.out.trans (h5.below (B := w.heap.size) (by have := World.block_lt_of_cell? _ _ c4; omega) (by rintro k rfl; omega)))
  clear h5 H4
  go_wp2
  go_ret
  exact ⟨rfl, H5.out⟩

set_option maxHeartbeats 8000000 in
set_option maxRecDepth 100000 in
theorem size_11 (w : World) : Calls Try.prog 13 #[.int .i64 11] w fun e w' => e = .returned (.int .i64 36) ∧ Below w.heap.size w w' := by
  go_enter Try.func13, Try.ntmps13
  go_wp2_with fail
  refine (kinds_any _).mono ?_
  rintro e w1 ⟨rfl, rfl⟩
  have hl := look_11 (W := w.alloc (.map kindsM 6)) (MapKept.heap_alloc w _).1 true
  simp only [if_true] at hl
  go_wp2_with fail
  refine (header_any _ _).mono ?_
  rintro e w2 ⟨b, hb, rfl, hH, hB⟩
  have c0 : w2.cell? ⟨w.heap.size + 2, 0, none⟩ = some (.int .i64 0) := below_keep hB (by simp [go_sem])
  have f0 : w2.frozen? ⟨w.heap.size + 2, 0, none⟩ = false := by rw [(bcell hB).2 _ _ (by simp)]; simp [go_sem]
  have z0 : w.heap.size + 2 < w2.heap.size := World.block_lt_of_cell? _ _ c0
  have zb : b < w2.heap.size := World.block_lt_of_cell? _ _ (hH 0 _ rfl)
  simp at hb
  have H2 := Lib.hid (below_step (below_alloc (below_alloc (below_alloc (Below.refl _ _) _) _) _) hB)
  have HH := Lib.hid hH
  clear hB hl hH
  go_wp2_with fail
  refine (visit_counts _ _ _ hdrF hdr_fine (by decide) 0 _ c0 f0 (by omega) (by omega) HH.out zb (by omega)).mono ?_
  rintro e w3 ⟨rfl, h3, c3, f3⟩
  have c3 : w3.cell? ⟨w.heap.size + 2, 0, none⟩ = some (.int .i64 22) := c3
  have H3 := Lib.hid (H2.out.trans (h3.below (B := w.heap.size) (by omega) (by rintro k rfl; omega)))
  have z3 : w.heap.size + 2 < w3.heap.size := World.block_lt_of_cell? _ _ c3
  clear h3 H2 c0 f0 z0 zb hb HH
  go_wp2_with fail
  refine (announce_any _ _).mono ?_
  rintro e w4 ⟨b, hb, rfl, hH, hB⟩
  have c4 : w4.cell? ⟨w.heap.size + 2, 0, none⟩ = some (.int .i64 22) := below_keep hB c3
  have f4 : w4.frozen? ⟨w.heap.size + 2, 0, none⟩ = false := by rw [(bcell hB).2 _ _ z3]; exact f3
  have zb : b < w4.heap.size := World.block_lt_of_cell? _ _ (hH 0 _ rfl)
  have H4 := Lib.hid (below_step H3.out hB)
  have HH := Lib.hid hH
  clear hB hH c3 f3 H3
  go_wp2_with fail
  refine (visit_counts _ _ _ annF ann_fine (by decide) 22 _ c4 f4 (by omega) (by omega) HH.out zb (by omega)).mono ?_
  rintro e w5 ⟨rfl, h5, c5, f5⟩
  have c5 : w5.cell? ⟨w.heap.size + 2, 0, none⟩ = some (.int .i64 36) := c5
  have H5 := Lib.hid (H4.out.trans (h5.below (B := w.heap.size) (by have := World.block_lt_of_cell? _ _ c4; omega) (by rintro k rfl; omega)))
  clear h5 H4
  go_wp2
  go_ret
  exact ⟨rfl, H5.out⟩

set_option maxHeartbeats 4000000 in
theorem size_no (K : Int) (w : World) (k0 : ¬ K = 0) (k2 : ¬ K = 2) (k3 : ¬ K = 3) (k8 : ¬ K = 8) (k10 : ¬ K = 10) (k11 : ¬ K = 11) : Calls Try.prog 13 #[.int .i64 K] w fun e w' => e = .returned (.int .i64 0) ∧ Below w.heap.size w w' := by
  have hl := look_no (W := w.alloc (.map kindsM 6)) (MapKept.heap_alloc w _).1 K k0 k2 k3 k8 k10 k11
  clear k0 k2 k3 k8 k10 k11
  go_enter Try.func13, Try.ntmps13
  go_wp2_with fail
  refine (kinds_any _).mono ?_
  rintro e w1 ⟨rfl, rfl⟩
  go_wp2
  go_ret
  exact ⟨rfl, below_alloc (Below.refl _ _) _⟩

/-- ptp.Size -/
theorem size_any (K : Int) (w : World) : Calls Try.prog 13 #[.int .i64 K] w fun e w' => e = .returned (.int .i64 (sizeV K)) ∧ Below w.heap.size w w' := by
  by_cases k0 : K = 0
  · subst k0; exact size_0 w
  by_cases k2 : K = 2
  · subst k2; exact size_2 w
  by_cases k3 : K = 3
  · subst k3; exact size_3 w
  by_cases k10 : K = 10
  · subst k10; exact size_10 w
  by_cases k8 : K = 8
  · subst k8; exact size_8 w
  by_cases k11 : K = 11
  · subst k11; exact size_11 w
  rw [show sizeV K = 0 by unfold sizeV; rw [if_neg (fun h => h.elim k0 k2), if_neg (fun h => h.elim k3 k10), if_neg k8, if_neg k11]]
  exact size_no K w k0 k2 k3 k8 k10 k11

end Go.Proofs.Ytecengclcaodeaa
