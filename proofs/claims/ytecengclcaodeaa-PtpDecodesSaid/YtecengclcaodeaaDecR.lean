/-
  ptp.Decode's closure: it reads a field. No conditions.
-/
import Derived.Test.YtecengclcaodeaaEncX
import Derived.Test.YtecengclcaodeaaTail
namespace Go.Proofs.Ytecengclcaodeaa
open Go.RowKit Go.Lib Plain

/-- Bytes lie somewhere. -/
def Lies (w : World) (blk off : Nat) (L : List Int) : Prop := ∀ (j : Nat) (x : Int), L[j]? = some x → w.cell? ⟨blk, off + j, none⟩ = some (.int .u8 x)
theorem uV_zero (l : List Int) : (0 : Int) = wrap64 (uV (l.take 0)) := by
  rw [List.take_zero, uV_nil]
  unfold wrap64
  omega
theorem rd8 (l : List Int) : rdV 8 true l = wrap64 (wrap64 (uV l)) := by simp [rdV]
theorem rd4 (l : List Int) : rdV 4 true l = wrap64 (wrap64 (uV l) * 4294967296) / 4294967296 := rfl

set_option maxHeartbeats 4000000 in
theorem read_u (i c p0 p1 blk off cap n at_ : Nat) (L : List Int) (hL : Bytes L) (x0 : Int) (w : World) (hb : w.cell? ⟨p0, 0, none⟩ = some (.slice (some ⟨blk, off, none⟩) L.length cap)) (hcap : L.length ≤ cap) (hcl : cap ≤ 9223372036854775807)
    (ha : w.cell? ⟨p1, 0, none⟩ = some (.int .i64 (at_ : Int))) (hf1 : w.frozen? ⟨p1, 0, none⟩ = false) (hc : w.cell? ⟨c, i, none⟩ = some (.int .i64 x0)) (hfc : w.frozen? ⟨c, i, none⟩ = false) (hl : Lies w blk off L) (n0 : 1 ≤ n) (n1 : n ≤ 8) (hat : at_ + n ≤ L.length) (hcp : c ≠ p1) :
    Calls Try.prog 37 #[.agg #[.pointer (some ⟨c, i, none⟩), .int .i64 (n : Int), .bool false], .pointer (some ⟨p0, 0, none⟩), .pointer (some ⟨p1, 0, none⟩)] w fun e w' => e = .returned (.tuple #[]) ∧
      ∃ o, w' = ((w.alloc o).setCell ⟨p1, 0, none⟩ (.int .i64 ((at_ + n : Nat) : Int))).setCell ⟨c, i, none⟩ (.int .i64 (rdV n false ((L.drop at_).take n))) := by
  have zb : blk < w.heap.size := by
    have := hl at_ _ (List.getElem?_eq_getElem (show at_ < L.length by omega))
    exact World.block_lt_of_cell? _ _ this
  have zp0 : p0 < w.heap.size := World.block_lt_of_cell? _ _ hb
  have zp1 : p1 < w.heap.size := World.block_lt_of_cell? _ _ ha
  have zc : c < w.heap.size := World.block_lt_of_cell? _ _ hc
  have b0 : (0 : Int) ≤ (at_ : Int) := by omega
  have b1 : (at_ : Int) ≤ (at_ : Int) + (n : Int) := by omega
  have b2 : (at_ : Int) + (n : Int) ≤ (cap : Int) := by omega
  go_enter Try.func37, Try.ntmps37
  go_wp2
  rw [Nat.add_sub_cancel_left]
  refine wp_world ?_
  intro W hW
  have HW := Lib.hid hW
  have bW : ∀ j (x : Int), L[j]? = some x → W.cell? ⟨blk, off + j, none⟩ = some (.int .u8 x) := fun j x hx => by subst hW; rw [World.cell?_alloc_lt _ _ _ zb]; exact hl j x hx
  have BW := Lib.hid bW
  have F := Lib.hid (show W.cell? ⟨p1, 0, none⟩ = some (.int .i64 (at_ : Int)) ∧ W.frozen? ⟨p1, 0, none⟩ = false ∧ W.cell? ⟨c, i, none⟩ = some (.int .i64 x0) ∧ W.frozen? ⟨c, i, none⟩ = false ∧ W.cell? ⟨w.heap.size, 0, none⟩ = some (.pointer (some ⟨c, i, none⟩)) ∧ W.cell? ⟨w.heap.size, 1, none⟩ = some (.int .i64 (n : Int)) ∧ W.cell? ⟨w.heap.size, 2, none⟩ = some (.bool false) by
    subst hW
    exact ⟨(World.cell?_alloc_lt _ _ _ zp1).trans ha, (World.frozen?_alloc_old _ _ _ (Nat.ne_of_lt zp1)).trans hf1, (World.cell?_alloc_lt _ _ _ zc).trans hc, (World.frozen?_alloc_old _ _ _ (Nat.ne_of_lt zc)).trans hfc, by simp [go_sem], by simp [go_sem], by simp [go_sem]⟩)
  clear hW bW hl
  go_loopw [4, 6, 16] (fun u _ q wr => ∃ k : Nat, k ≤ n ∧ q = .int .i64 (k : Int) ∧ u = .int .i64 (wrap64 (uV ((L.drop at_).take k))) ∧ wr = W) (fun _ _ q _ => n - (intOf q).toNat)
  case atStart => exact ⟨0, Nat.zero_le _, rfl, int_eq (uV_zero _), rfl⟩
  case round =>
    obtain ⟨k, hk, rfl, rfl, rfl⟩ := hrel
    by_cases hlt : k < n
    · obtain ⟨x, hx⟩ : ∃ x, L[at_ + k]? = some x := ⟨_, List.getElem?_eq_getElem (by omega)⟩
      have hxb : 0 ≤ x ∧ x ≤ 255 := hL x (List.mem_of_getElem? hx)
      have d0 : wr.cell? ⟨blk, off + at_ + k, none⟩ = some (.int .u8 x) := by rw [Nat.add_assoc]; exact BW.out _ _ hx
      have hstep : uV ((L.drop at_).take (k + 1)) = uV ((L.drop at_).take k) * 256 + x := by
        rw [List.take_add_one, List.getElem?_drop, hx]
        exact uV_snoc _ _
      have HS := Lib.hid hstep
      have HX := Lib.hid hxb
      obtain ⟨x0', x1'⟩ := hxb
      clear hstep hx
      generalize hu : wrap64 (uV ((L.drop at_).take k)) = u
      have HU := Lib.hid hu
      clear hu
      have ho := or_step u x x0' x1'
      go_wp2
      go_roundw
      case rel => exact ⟨k + 1, by omega, by go_num, by rw [HS.out, ← wrap_step _ _ HX.out.1 HX.out.2, HU.out], trivial⟩
      case measure => simp [intOf]; omega
    · obtain rfl : k = n := by omega
      obtain ⟨f0, f1, f2, f3, f4, f5, f6⟩ := F.out
      have nb : ¬ p1 = w.heap.size := by omega
      have nc : ¬ c = w.heap.size := by omega
      have nb' : ¬ w.heap.size = p1 := by omega
      have ncp : ¬ c = p1 := hcp
      have npc : ¬ p1 = c := fun e => hcp e.symm
      go_wp2
      go_end0
      exact ⟨rfl, _, by rw [HW.out, Int.natCast_add]; rfl⟩

set_option maxHeartbeats 4000000 in
theorem read_s8 (i c p0 p1 blk off cap at_ : Nat) (L : List Int) (hL : Bytes L) (x0 : Int) (w : World) (hb : w.cell? ⟨p0, 0, none⟩ = some (.slice (some ⟨blk, off, none⟩) L.length cap)) (hcap : L.length ≤ cap) (hcl : cap ≤ 9223372036854775807)
    (ha : w.cell? ⟨p1, 0, none⟩ = some (.int .i64 (at_ : Int))) (hf1 : w.frozen? ⟨p1, 0, none⟩ = false) (hc : w.cell? ⟨c, i, none⟩ = some (.int .i64 x0)) (hfc : w.frozen? ⟨c, i, none⟩ = false) (hl : Lies w blk off L) (hat : at_ + 8 ≤ L.length) (hcp : c ≠ p1) :
    Calls Try.prog 37 #[.agg #[.pointer (some ⟨c, i, none⟩), .int .i64 8, .bool true], .pointer (some ⟨p0, 0, none⟩), .pointer (some ⟨p1, 0, none⟩)] w fun e w' => e = .returned (.tuple #[]) ∧
      ∃ o, w' = ((w.alloc o).setCell ⟨p1, 0, none⟩ (.int .i64 ((at_ + 8 : Nat) : Int))).setCell ⟨c, i, none⟩ (.int .i64 (rdV 8 true ((L.drop at_).take 8))) := by
  have zb : blk < w.heap.size := by
    have := hl at_ _ (List.getElem?_eq_getElem (show at_ < L.length by omega))
    exact World.block_lt_of_cell? _ _ this
  have zp0 : p0 < w.heap.size := World.block_lt_of_cell? _ _ hb
  have zp1 : p1 < w.heap.size := World.block_lt_of_cell? _ _ ha
  have zc : c < w.heap.size := World.block_lt_of_cell? _ _ hc
  have b0 : (0 : Int) ≤ (at_ : Int) := by omega
  have b1 : (at_ : Int) ≤ (at_ : Int) + 8 := by omega
  have b2 : (at_ : Int) + 8 ≤ (cap : Int) := by omega
  go_enter Try.func37, Try.ntmps37
  go_wp2
  simp only [Nat.add_sub_cancel_left]
  refine wp_world ?_
  intro W hW
  have HW := Lib.hid hW
  have bW : ∀ j (x : Int), L[j]? = some x → W.cell? ⟨blk, off + j, none⟩ = some (.int .u8 x) := fun j x hx => by subst hW; rw [World.cell?_alloc_lt _ _ _ zb]; exact hl j x hx
  have BW := Lib.hid bW
  have F := Lib.hid (show W.cell? ⟨p1, 0, none⟩ = some (.int .i64 (at_ : Int)) ∧ W.frozen? ⟨p1, 0, none⟩ = false ∧ W.cell? ⟨c, i, none⟩ = some (.int .i64 x0) ∧ W.frozen? ⟨c, i, none⟩ = false ∧ W.cell? ⟨w.heap.size, 0, none⟩ = some (.pointer (some ⟨c, i, none⟩)) ∧ W.cell? ⟨w.heap.size, 1, none⟩ = some (.int .i64 8) ∧ W.cell? ⟨w.heap.size, 2, none⟩ = some (.bool true) by
    subst hW
    exact ⟨(World.cell?_alloc_lt _ _ _ zp1).trans ha, (World.frozen?_alloc_old _ _ _ (Nat.ne_of_lt zp1)).trans hf1, (World.cell?_alloc_lt _ _ _ zc).trans hc, (World.frozen?_alloc_old _ _ _ (Nat.ne_of_lt zc)).trans hfc, by simp [go_sem], by simp [go_sem], by simp [go_sem]⟩)
  clear hW bW hl
  go_loopw [4, 6, 16] (fun u _ q wr => ∃ k : Nat, k ≤ 8 ∧ q = .int .i64 (k : Int) ∧ u = .int .i64 (wrap64 (uV ((L.drop at_).take k))) ∧ wr = W) (fun _ _ q _ => 8 - (intOf q).toNat)
  case atStart => exact ⟨0, Nat.zero_le _, rfl, int_eq (uV_zero _), rfl⟩
  case round =>
    obtain ⟨k, hk, rfl, rfl, rfl⟩ := hrel
    by_cases hlt : k < 8
    · obtain ⟨x, hx⟩ : ∃ x, L[at_ + k]? = some x := ⟨_, List.getElem?_eq_getElem (by omega)⟩
      have hxb : 0 ≤ x ∧ x ≤ 255 := hL x (List.mem_of_getElem? hx)
      have d0 : wr.cell? ⟨blk, off + at_ + k, none⟩ = some (.int .u8 x) := by rw [Nat.add_assoc]; exact BW.out _ _ hx
      have hstep : uV ((L.drop at_).take (k + 1)) = uV ((L.drop at_).take k) * 256 + x := by
        rw [List.take_add_one, List.getElem?_drop, hx]
        exact uV_snoc _ _
      have HS := Lib.hid hstep
      have HX := Lib.hid hxb
      obtain ⟨x0', x1'⟩ := hxb
      clear hstep hx
      generalize hu : wrap64 (uV ((L.drop at_).take k)) = u
      have HU := Lib.hid hu
      clear hu
      have ho := or_step u x x0' x1'
      go_wp2
      go_roundw
      case rel => exact ⟨k + 1, by omega, by go_num, by rw [HS.out, ← wrap_step _ _ HX.out.1 HX.out.2, HU.out], trivial⟩
      case measure => simp [intOf]; omega
    · obtain rfl : k = 8 := by omega
      obtain ⟨f0, f1, f2, f3, f4, f5, f6⟩ := F.out
      have nb : ¬ p1 = w.heap.size := by omega
      have nc : ¬ c = w.heap.size := by omega
      have nb' : ¬ w.heap.size = p1 := by omega
      have ncp : ¬ c = p1 := hcp
      have npc : ¬ p1 = c := fun e => hcp e.symm
      generalize hu : wrap64 (uV ((L.drop at_).take 8)) = u
      have HU := Lib.hid hu
      clear hu
      go_wp2
      go_end0
      exact ⟨rfl, _, by rw [HW.out, rd8, HU.out, Int.natCast_add]; rfl⟩

set_option maxHeartbeats 4000000 in
theorem read_s4 (i c p0 p1 blk off cap at_ : Nat) (L : List Int) (hL : Bytes L) (x0 : Int) (w : World) (hb : w.cell? ⟨p0, 0, none⟩ = some (.slice (some ⟨blk, off, none⟩) L.length cap)) (hcap : L.length ≤ cap) (hcl : cap ≤ 9223372036854775807)
    (ha : w.cell? ⟨p1, 0, none⟩ = some (.int .i64 (at_ : Int))) (hf1 : w.frozen? ⟨p1, 0, none⟩ = false) (hc : w.cell? ⟨c, i, none⟩ = some (.int .i64 x0)) (hfc : w.frozen? ⟨c, i, none⟩ = false) (hl : Lies w blk off L) (hat : at_ + 4 ≤ L.length) (hcp : c ≠ p1) :
    Calls Try.prog 37 #[.agg #[.pointer (some ⟨c, i, none⟩), .int .i64 4, .bool true], .pointer (some ⟨p0, 0, none⟩), .pointer (some ⟨p1, 0, none⟩)] w fun e w' => e = .returned (.tuple #[]) ∧
      ∃ o, w' = ((w.alloc o).setCell ⟨p1, 0, none⟩ (.int .i64 ((at_ + 4 : Nat) : Int))).setCell ⟨c, i, none⟩ (.int .i64 (rdV 4 true ((L.drop at_).take 4))) := by
  have zb : blk < w.heap.size := by
    have := hl at_ _ (List.getElem?_eq_getElem (show at_ < L.length by omega))
    exact World.block_lt_of_cell? _ _ this
  have zp0 : p0 < w.heap.size := World.block_lt_of_cell? _ _ hb
  have zp1 : p1 < w.heap.size := World.block_lt_of_cell? _ _ ha
  have zc : c < w.heap.size := World.block_lt_of_cell? _ _ hc
  have b0 : (0 : Int) ≤ (at_ : Int) := by omega
  have b1 : (at_ : Int) ≤ (at_ : Int) + 4 := by omega
  have b2 : (at_ : Int) + 4 ≤ (cap : Int) := by omega
  go_enter Try.func37, Try.ntmps37
  go_wp2
  simp only [Nat.add_sub_cancel_left]
  refine wp_world ?_
  intro W hW
  have HW := Lib.hid hW
  have bW : ∀ j (x : Int), L[j]? = some x → W.cell? ⟨blk, off + j, none⟩ = some (.int .u8 x) := fun j x hx => by subst hW; rw [World.cell?_alloc_lt _ _ _ zb]; exact hl j x hx
  have BW := Lib.hid bW
  have F := Lib.hid (show W.cell? ⟨p1, 0, none⟩ = some (.int .i64 (at_ : Int)) ∧ W.frozen? ⟨p1, 0, none⟩ = false ∧ W.cell? ⟨c, i, none⟩ = some (.int .i64 x0) ∧ W.frozen? ⟨c, i, none⟩ = false ∧ W.cell? ⟨w.heap.size, 0, none⟩ = some (.pointer (some ⟨c, i, none⟩)) ∧ W.cell? ⟨w.heap.size, 1, none⟩ = some (.int .i64 4) ∧ W.cell? ⟨w.heap.size, 2, none⟩ = some (.bool true) by
    subst hW
    exact ⟨(World.cell?_alloc_lt _ _ _ zp1).trans ha, (World.frozen?_alloc_old _ _ _ (Nat.ne_of_lt zp1)).trans hf1, (World.cell?_alloc_lt _ _ _ zc).trans hc, (World.frozen?_alloc_old _ _ _ (Nat.ne_of_lt zc)).trans hfc, by simp [go_sem], by simp [go_sem], by simp [go_sem]⟩)
  clear hW bW hl
  go_loopw [4, 6, 16] (fun u _ q wr => ∃ k : Nat, k ≤ 4 ∧ q = .int .i64 (k : Int) ∧ u = .int .i64 (wrap64 (uV ((L.drop at_).take k))) ∧ wr = W) (fun _ _ q _ => 4 - (intOf q).toNat)
  case atStart => exact ⟨0, Nat.zero_le _, rfl, int_eq (uV_zero _), rfl⟩
  case round =>
    obtain ⟨k, hk, rfl, rfl, rfl⟩ := hrel
    by_cases hlt : k < 4
    · obtain ⟨x, hx⟩ : ∃ x, L[at_ + k]? = some x := ⟨_, List.getElem?_eq_getElem (by omega)⟩
      have hxb : 0 ≤ x ∧ x ≤ 255 := hL x (List.mem_of_getElem? hx)
      have d0 : wr.cell? ⟨blk, off + at_ + k, none⟩ = some (.int .u8 x) := by rw [Nat.add_assoc]; exact BW.out _ _ hx
      have hstep : uV ((L.drop at_).take (k + 1)) = uV ((L.drop at_).take k) * 256 + x := by
        rw [List.take_add_one, List.getElem?_drop, hx]
        exact uV_snoc _ _
      have HS := Lib.hid hstep
      have HX := Lib.hid hxb
      obtain ⟨x0', x1'⟩ := hxb
      clear hstep hx
      generalize hu : wrap64 (uV ((L.drop at_).take k)) = u
      have HU := Lib.hid hu
      clear hu
      have ho := or_step u x x0' x1'
      go_wp2
      go_roundw
      case rel => exact ⟨k + 1, by omega, by go_num, by rw [HS.out, ← wrap_step _ _ HX.out.1 HX.out.2, HU.out], trivial⟩
      case measure => simp [intOf]; omega
    · obtain rfl : k = 4 := by omega
      obtain ⟨f0, f1, f2, f3, f4, f5, f6⟩ := F.out
      have nb : ¬ p1 = w.heap.size := by omega
      have nc : ¬ c = w.heap.size := by omega
      have nb' : ¬ w.heap.size = p1 := by omega
      have ncp : ¬ c = p1 := hcp
      have npc : ¬ p1 = c := fun e => hcp e.symm
      generalize hu : wrap64 (uV ((L.drop at_).take 4)) = u
      have HU := Lib.hid hu
      clear hu
      go_wp2
      go_end0
      exact ⟨rfl, _, by rw [HW.out, rd4, HU.out, Int.natCast_add]; rfl⟩

theorem read_any (i c p0 p1 blk off cap n at_ : Nat) (sg : Bool) (hsg : sg = true → n = 8 ∨ n = 4) (L : List Int) (hL : Bytes L) (x0 : Int) (w : World) (hb : w.cell? ⟨p0, 0, none⟩ = some (.slice (some ⟨blk, off, none⟩) L.length cap)) (hcap : L.length ≤ cap) (hcl : cap ≤ 9223372036854775807)
    (ha : w.cell? ⟨p1, 0, none⟩ = some (.int .i64 (at_ : Int))) (hf1 : w.frozen? ⟨p1, 0, none⟩ = false) (hc : w.cell? ⟨c, i, none⟩ = some (.int .i64 x0)) (hfc : w.frozen? ⟨c, i, none⟩ = false) (hl : Lies w blk off L) (n0 : 1 ≤ n) (n1 : n ≤ 8) (hat : at_ + n ≤ L.length) (hcp : c ≠ p1) :
    Calls Try.prog 37 #[.agg #[.pointer (some ⟨c, i, none⟩), .int .i64 (n : Int), .bool sg], .pointer (some ⟨p0, 0, none⟩), .pointer (some ⟨p1, 0, none⟩)] w fun e w' => e = .returned (.tuple #[]) ∧
      ∃ o, w' = ((w.alloc o).setCell ⟨p1, 0, none⟩ (.int .i64 ((at_ + n : Nat) : Int))).setCell ⟨c, i, none⟩ (.int .i64 (rdV n sg ((L.drop at_).take n))) := by
  cases sg with
  | false => exact read_u i c p0 p1 blk off cap n at_ L hL x0 w hb hcap hcl ha hf1 hc hfc hl n0 n1 hat hcp
  | true =>
    rcases hsg rfl with rfl | rfl
    · exact read_s8 i c p0 p1 blk off cap at_ L hL x0 w hb hcap hcl ha hf1 hc hfc hl hat hcp
    · exact read_s4 i c p0 p1 blk off cap at_ L hL x0 w hb hcap hcl ha hf1 hc hfc hl hat hcp

/-- What reading some fields makes of a codec's numbers. -/
def rdF (L : List Int) : List Fld → Nat → List Int → List Int
  | [], _, M => M
  | (i, n, g) :: r, at_, M => rdF L r (at_ + n.toNat) (M.set i (rdV n.toNat g ((L.drop at_).take n.toNat)))
def totN : List Fld → Nat
  | [] => 0
  | f :: r => f.2.1.toNat + totN r
theorem rdF_take {L : List Int} {l : List Fld} {k i : Nat} {n : Int} {g : Bool} (h : l[k]? = some (i, n, g)) (at_ : Nat) (M : List Int) :
    rdF L (l.take (k + 1)) at_ M = (rdF L (l.take k) at_ M).set i (rdV n.toNat g ((L.drop (at_ + totN (l.take k))).take n.toNat)) := by
  induction l generalizing k at_ M with
  | nil => simp at h
  | cons f r ih =>
    obtain ⟨j, m, t⟩ := f
    cases k with
    | zero =>
      simp at h
      obtain ⟨rfl, rfl, rfl⟩ := h
      simp [rdF, totN]
    | succ k =>
      have := ih (k := k) (by simpa using h) (at_ + m.toNat) (M.set j (rdV m.toNat t ((L.drop at_).take m.toNat)))
      simp only [List.take_succ_cons, rdF, totN] at this ⊢
      rw [this, Nat.add_assoc]
theorem totN_take {l : List Fld} {k : Nat} {f : Fld} (h : l[k]? = some f) : totN (l.take (k + 1)) = totN (l.take k) + f.2.1.toNat := by
  induction l generalizing k with
  | nil => simp at h
  | cons g r ih =>
    cases k with
    | zero => simp at h; subst h; simp [totN]
    | succ k =>
      have := ih (k := k) (by simpa using h)
      simp only [List.take_succ_cons, totN] at this ⊢
      omega
theorem totN_le (l : List Fld) (k : Nat) : totN (l.take k) ≤ totN l := by
  induction l generalizing k with
  | nil => simp [totN]
  | cons g r ih =>
    cases k with
    | zero => simp [totN]
    | succ k =>
      have := ih k
      simp only [List.take_succ_cons, totN]
      omega
theorem rdF_len (L : List Int) (l : List Fld) (at_ : Nat) (M : List Int) : (rdF L l at_ M).length = M.length := by
  induction l generalizing at_ M with
  | nil => rfl
  | cons f r ih => obtain ⟨i, n, g⟩ := f; simp [rdF, ih]
theorem Lies.but {w w' : World} {out : Nat → Prop} {blk off : Nat} {L : List Int} (h : Lies w blk off L) (hb : But out w w') (hl : blk < w.heap.size) (hn : ¬ out blk) : Lies w' blk off L := fun j x hx => by
  rw [hb.cell hl hn]; exact h j x hx

/-- visit, reading. -/
theorem visit_reads (p0 p1 b c blk off cap at0 : Nat) (fs : List Fld) (hfs : Fine fs) (hsg : ∀ f ∈ fs, f.2.2 = true → f.2.1 = 8 ∨ f.2.1 = 4) (hn : fs.length ≤ 100) (L : List Int) (hL : Bytes L) (M : List Int) (hM : ∀ f ∈ fs, f.1 < M.length) (w : World)
    (hb : w.cell? ⟨p0, 0, none⟩ = some (.slice (some ⟨blk, off, none⟩) L.length cap)) (hcap : L.length ≤ cap) (hcl : cap ≤ 9223372036854775807) (ha : w.cell? ⟨p1, 0, none⟩ = some (.int .i64 (at0 : Int))) (hf1 : w.frozen? ⟨p1, 0, none⟩ = false)
    (hC : Holds w c (M.map (Value.int .i64))) (hfc : ∀ i, w.frozen? ⟨c, i, none⟩ = false) (hc : c < w.heap.size) (hl : Lies w blk off L) (hat : at0 + totN fs ≤ L.length) (hcp : c ≠ p1) (h0c : p0 ≠ c) (h01 : p0 ≠ p1) (hbl : blk < w.heap.size) (hbc : blk ≠ c) (hb1 : blk ≠ p1) (hH : Holds w b (fldL c fs)) (hbs : b < w.heap.size) (hfb : b ≠ c) (hf1b : b ≠ p1) :
    Calls Try.prog 32 #[.func (.func 37) #[] #[.pointer (some ⟨p0, 0, none⟩), .pointer (some ⟨p1, 0, none⟩)], .slice (some ⟨b, 0, none⟩) fs.length fs.length] w fun e w' => e = .returned (.tuple #[]) ∧ Holds w' c ((rdF L fs at0 M).map (Value.int .i64)) ∧ w'.cell? ⟨p1, 0, none⟩ = some (.int .i64 ((at0 + totN fs : Nat) : Int)) ∧ w'.frozen? ⟨p1, 0, none⟩ = false ∧ (∀ i, w'.frozen? ⟨c, i, none⟩ = false) ∧ But (fun x => x = c ∨ x = p1) w w' := by
  have hp1 : p1 < w.heap.size := World.block_lt_of_cell? _ _ ha
  have hp0 : p0 < w.heap.size := World.block_lt_of_cell? _ _ hb
  refine (visit_read p0 p1 b c fs (fun k W => Holds W c ((rdF L (fs.take k) at0 M).map (Value.int .i64)) ∧ W.cell? ⟨p1, 0, none⟩ = some (.int .i64 ((at0 + totN (fs.take k) : Nat) : Int)) ∧ W.frozen? ⟨p1, 0, none⟩ = false ∧ (∀ i, W.frozen? ⟨c, i, none⟩ = false) ∧ But (fun x => x = c ∨ x = p1) w W)
    (fun k W h => h.2.2.2.2.holds hH hbs (fun e => e.elim hfb hf1b))
    (fun k W o h => by
      obtain ⟨h1, h2, h3, h4, h5⟩ := h
      have l1 : c < W.heap.size := Nat.lt_of_lt_of_le hc h5.size
      have l2 : p1 < W.heap.size := Nat.lt_of_lt_of_le hp1 h5.size
      exact ⟨h1.alloc l1 o, (World.cell?_alloc_lt _ _ _ l2).trans h2, (World.frozen?_alloc_old _ _ _ (Nat.ne_of_lt l2)).trans h3, fun i => (World.frozen?_alloc_old _ _ _ (Nat.ne_of_lt l1)).trans (h4 i), h5.alloc o⟩)
    (fun k i n s hk W h => ?_) hn w ⟨by simpa [rdF] using hC, by simpa [totN] using ha, hf1, hfc, But.refl⟩).mono fun e w' h => ⟨h.1, by simpa using h.2⟩
  obtain ⟨h1, h2, h3, h4, h5⟩ := h
  have e1 : 1 ≤ n ∧ n ≤ 8 := hfs (i, n, s) (List.mem_of_getElem? hk)
  have e2 : i < M.length := hM (i, n, s) (List.mem_of_getElem? hk)
  have e3 : s = true → n = 8 ∨ n = 4 := hsg (i, n, s) (List.mem_of_getElem? hk)
  have e4 := totN_le fs (k + 1)
  rw [totN_take hk] at e4
  have l1 : c < W.heap.size := Nat.lt_of_lt_of_le hc h5.size
  have l2 : p1 < W.heap.size := Nat.lt_of_lt_of_le hp1 h5.size
  have e5 : (((n.toNat : Nat) : Int)) = n := by omega
  have hx : W.cell? ⟨c, i, none⟩ = some (.int .i64 ((rdF L (fs.take k) at0 M).getD i 0)) := by
    have := h1 i (.int .i64 ((rdF L (fs.take k) at0 M).getD i 0)) (by simp [rdF_len, e2])
    simpa using this
  have := read_any i c p0 p1 blk off cap n.toNat (at0 + totN (fs.take k)) s (fun hs => by have := e3 hs; omega) L hL _ W ((h5.cell hp0 (fun e => e.elim h0c h01)).trans hb) hcap hcl h2 h3 hx (h4 i) (hl.but h5 hbl (fun e => e.elim hbc hb1)) (by omega) (by omega) (by simp only at e4; omega) hcp
  rw [e5] at this
  refine this.mono fun e w' h => ⟨h.1, ?_⟩
  obtain ⟨o, rfl⟩ := h.2
  have hq : ((W.alloc o).setCell ⟨p1, 0, none⟩ (.int .i64 ((at0 + totN (fs.take k) + n.toNat : Nat) : Int))).cell? ⟨p1, 0, none⟩ = some (.int .i64 ((at0 + totN (fs.take k) + n.toNat : Nat) : Int)) :=
    World.cell?_setCell_same _ _ _ ((World.cell?_alloc_lt _ _ _ l2).trans h2)
  refine ⟨?_, ?_, by simpa [go_sem] using (World.frozen?_alloc_old W o ⟨p1, 0, none⟩ (Nat.ne_of_lt l2)).trans h3, fun j => by simpa [go_sem] using (World.frozen?_alloc_old W o ⟨c, j, none⟩ (Nat.ne_of_lt l1)).trans (h4 j), ((h5.alloc o).set (fun _ => Or.inr rfl) _).set (fun _ => Or.inl rfl) _⟩
  · rw [rdF_take hk]
    have := ((h1.alloc l1 o).far (b' := p1) (o := 0) (Ne.symm hcp) (.int .i64 ((at0 + totN (fs.take k) + n.toNat : Nat) : Int))).set i (.int .i64 (rdV n.toNat s ((L.drop (at0 + totN (fs.take k))).take n.toNat)))
    simpa [List.map_set] using this
  · rw [World.cell?_setCell_far _ _ _ _ hcp, hq, totN_take hk, Nat.add_assoc]

end Go.Proofs.Ytecengclcaodeaa
