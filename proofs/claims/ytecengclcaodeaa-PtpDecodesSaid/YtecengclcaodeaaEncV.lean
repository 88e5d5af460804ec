/-
  ptp.visit with each of the three closures: what holds ahead of it and is handed on by the closure holds behind it. No conditions.
-/
import Derived.Test.YtecengclcaodeaaEncF
import Derived.Deep.LoopGhost
namespace Go.Proofs.Ytecengclcaodeaa
open Go.RowKit Go.Lib Plain

/-- Of what was there, nothing has turned but certain blocks. -/
structure But (out : Nat → Prop) (w w' : World) : Prop where
  os : w'.os = w.os
  tape : w'.tape = w.tape
  output : w'.output = w.output
  size : w.heap.size ≤ w'.heap.size
  block : ∀ k, k < w.heap.size → ¬ out k → w'.heap[k]? = w.heap[k]?

section
variable {out : Nat → Prop} {w w' : World}
theorem But.refl : But out w w := ⟨rfl, rfl, rfl, Nat.le_refl _, fun _ _ _ => rfl⟩
theorem But.trans {out' : Nat → Prop} {v : World} (h : But out w w') (k : But out' w' v) (hs : ∀ x, x < w.heap.size → out' x → out x) : But out w v :=
  ⟨k.os.trans h.os, k.tape.trans h.tape, k.output.trans h.output, Nat.le_trans h.size k.size, fun x hx hn => (k.block x (Nat.lt_of_lt_of_le hx h.size) (fun e => hn (hs x hx e))).trans (h.block x hx hn)⟩
theorem But.step {v : World} (h : But out w w') (k : But out w' v) : But out w v := h.trans k fun _ _ e => e
theorem But.of_below (h : Below w.heap.size w w') : But out w w' := ⟨h.os, h.tape, h.output, h.size, fun k hk _ => h.block k hk⟩
theorem But.alloc (h : But out w w') (o : Obj) : But out w (w'.alloc o) :=
  h.step ⟨rfl, rfl, rfl, by simp, fun k hk _ => Below.heap_alloc _ _ _ hk⟩
theorem But.drew (h : But out w w') : But out w w'.drew := ⟨h.os, h.tape, h.output, h.size, h.block⟩
theorem But.set (h : But out w w') {p : Addr} (hp : p.block < w.heap.size → out p.block) (u : Value) : But out w (w'.setCell p u) :=
  h.trans (out' := fun k => k = p.block) ⟨rfl, rfl, rfl, by simp [World.setCell], fun k _ hn => Below.heap_setCell _ _ _ _ hn⟩ fun x hx e => e ▸ hp (e ▸ hx)
theorem But.cell (h : But out w w') {p : Addr} (hl : p.block < w.heap.size) (hn : ¬ out p.block) : w'.cell? p = w.cell? p := World.cell?_of_block (w := w) (h.block _ hl hn)
theorem But.frozen (h : But out w w') {p : Addr} (hl : p.block < w.heap.size) (hn : ¬ out p.block) : w'.frozen? p = w.frozen? p := World.frozen?_of_block (w := w) (h.block _ hl hn)
theorem But.holds {b : Nat} {c : List Value} (h : But out w w') (k : Holds w b c) (hl : b < w.heap.size) (hn : ¬ out b) : Holds w' b c := fun j v hv => by
  rw [h.cell hl hn]; exact k j v hv
theorem But.below {B : Nat} (h : But out w w') (hB : B ≤ w.heap.size) (ho : ∀ k, out k → B ≤ k) : Below B w w' :=
  ⟨h.os, h.tape, h.output, h.size, fun k hk => h.block k (by omega) fun e => by have := ho k e; omega⟩
theorem But.mono {out' : Nat → Prop} (h : But out w w') (ho : ∀ k, k < w.heap.size → out k → out' k) : But out' w w' := ⟨h.os, h.tape, h.output, h.size, fun k hk hn => h.block k hk fun e => hn (ho k hk e)⟩
end

theorem fldL_get {c : Nat} : ∀ {l : List Fld} {k : Nat} {f : Fld}, l[k]? = some f → (fldL c l)[k * 3]? = some (.pointer (some ⟨c, f.1, none⟩)) ∧ (fldL c l)[k * 3 + 1]? = some (.int .i64 f.2.1) ∧ (fldL c l)[k * 3 + 2]? = some (.bool f.2.2)
  | [], k, f, h => by simp at h
  | (i, n, s) :: r, 0, f, h => by
    simp at h
    subst h
    exact ⟨rfl, rfl, rfl⟩
  | (i, n, s) :: r, k + 1, f, h => by
    have := fldL_get (c := c) (l := r) (k := k) (f := f) (by simpa using h)
    rw [show (k + 1) * 3 = k * 3 + 1 + 1 + 1 by omega]
    exact this

set_option maxHeartbeats 4000000 in
theorem visit_count (p0 b c : Nat) (fs : List Fld) (Inv : Nat → World → Prop) (hcell : ∀ k W, Inv k W → Holds W b (fldL c fs)) (halloc : ∀ k W o, Inv k W → Inv k (W.alloc o))
    (H : ∀ k i n s, fs[k]? = some (i, n, s) → ∀ W, Inv k W → Calls Try.prog 31 #[.agg #[.pointer (some ⟨c, i, none⟩), .int .i64 n, .bool s], .pointer (some ⟨p0, 0, none⟩)] W fun e W' => e = .returned (.tuple #[]) ∧ Inv (k + 1) W')
    (hn : fs.length ≤ 100) (w : World) (h0 : Inv 0 w) :
    Calls Try.prog 32 #[.func (.func 31) #[] #[.pointer (some ⟨p0, 0, none⟩)], .slice (some ⟨b, 0, none⟩) fs.length fs.length] w fun e w' => e = .returned (.tuple #[]) ∧ Inv fs.length w' := by
  have HC := Lib.hid hcell
  have HA := Lib.hid halloc
  have HH := Lib.hid H
  have H0 := Lib.hid h0
  clear hcell halloc H h0
  go_enter Try.func32, Try.ntmps32
  go_wp2
  go_loopw [8] (fun i wr => ∃ k : Nat, k ≤ fs.length ∧ i = .int .i64 k ∧ Inv k wr) (fun i _ => fs.length - (intOf i).toNat)
  case atStart => exact ⟨0, Nat.zero_le _, rfl, H0.out⟩
  case round =>
    obtain ⟨k, hk, rfl, hi⟩ := hrel
    have HI := Lib.hid hi
    clear hi
    by_cases hlt : k < fs.length
    · obtain ⟨⟨i, n, s⟩, hf⟩ : ∃ f, fs[k]? = some f := ⟨_, List.getElem?_eq_getElem hlt⟩
      have hg := fldL_get (c := c) hf
      have d0 : wr.cell? ⟨b, k * 3, none⟩ = some (.pointer (some ⟨c, i, none⟩)) := by simpa using HC.out k wr HI.out _ _ hg.1
      have d1 : wr.cell? ⟨b, k * 3 + 1, none⟩ = some (.int .i64 n) := by simpa using HC.out k wr HI.out _ _ hg.2.1
      have d2 : wr.cell? ⟨b, k * 3 + 2, none⟩ = some (.bool s) := by simpa using HC.out k wr HI.out _ _ hg.2.2
      have HF := Lib.hid hf
      clear hf hg
      go_wp2_with fail
      refine (HH.out k i n s HF.out _ (HA.out k wr _ HI.out)).mono ?_
      rintro e w1 ⟨rfl, h1⟩
      have H1 := Lib.hid h1
      clear h1
      go_wp2
      go_roundw
      case rel => exact ⟨k + 1, by omega, by go_num, H1.out⟩
      case measure => simp [intOf]; omega
    · obtain rfl : k = fs.length := by omega
      go_wp2
      go_end0
      exact ⟨rfl, HI.out⟩

set_option maxHeartbeats 4000000 in
theorem visit_write (p0 b c : Nat) (fs : List Fld) (Inv : Nat → World → Prop) (hcell : ∀ k W, Inv k W → Holds W b (fldL c fs)) (halloc : ∀ k W o, Inv k W → Inv k (W.alloc o))
    (H : ∀ k i n s, fs[k]? = some (i, n, s) → ∀ W, Inv k W → Calls Try.prog 34 #[.agg #[.pointer (some ⟨c, i, none⟩), .int .i64 n, .bool s], .pointer (some ⟨p0, 0, none⟩)] W fun e W' => e = .returned (.tuple #[]) ∧ Inv (k + 1) W')
    (hn : fs.length ≤ 100) (w : World) (h0 : Inv 0 w) :
    Calls Try.prog 32 #[.func (.func 34) #[] #[.pointer (some ⟨p0, 0, none⟩)], .slice (some ⟨b, 0, none⟩) fs.length fs.length] w fun e w' => e = .returned (.tuple #[]) ∧ Inv fs.length w' := by
  have HC := Lib.hid hcell
  have HA := Lib.hid halloc
  have HH := Lib.hid H
  have H0 := Lib.hid h0
  clear hcell halloc H h0
  go_enter Try.func32, Try.ntmps32
  go_wp2
  go_loopw [8] (fun i wr => ∃ k : Nat, k ≤ fs.length ∧ i = .int .i64 k ∧ Inv k wr) (fun i _ => fs.length - (intOf i).toNat)
  case atStart => exact ⟨0, Nat.zero_le _, rfl, H0.out⟩
  case round =>
    obtain ⟨k, hk, rfl, hi⟩ := hrel
    have HI := Lib.hid hi
    clear hi
    by_cases hlt : k < fs.length
    · obtain ⟨⟨i, n, s⟩, hf⟩ : ∃ f, fs[k]? = some f := ⟨_, List.getElem?_eq_getElem hlt⟩
      have hg := fldL_get (c := c) hf
      have d0 : wr.cell? ⟨b, k * 3, none⟩ = some (.pointer (some ⟨c, i, none⟩)) := by simpa using HC.out k wr HI.out _ _ hg.1
      have d1 : wr.cell? ⟨b, k * 3 + 1, none⟩ = some (.int .i64 n) := by simpa using HC.out k wr HI.out _ _ hg.2.1
      have d2 : wr.cell? ⟨b, k * 3 + 2, none⟩ = some (.bool s) := by simpa using HC.out k wr HI.out _ _ hg.2.2
      have HF := Lib.hid hf
      clear hf hg
      go_wp2_with fail
      refine (HH.out k i n s HF.out _ (HA.out k wr _ HI.out)).mono ?_
      rintro e w1 ⟨rfl, h1⟩
      have H1 := Lib.hid h1
      clear h1
      go_wp2
      go_roundw
      case rel => exact ⟨k + 1, by omega, by go_num, H1.out⟩
      case measure => simp [intOf]; omega
    · obtain rfl : k = fs.length := by omega
      go_wp2
      go_end0
      exact ⟨rfl, HI.out⟩

set_option maxHeartbeats 4000000 in
theorem visit_read (p0 p1 b c : Nat) (fs : List Fld) (Inv : Nat → World → Prop) (hcell : ∀ k W, Inv k W → Holds W b (fldL c fs)) (halloc : ∀ k W o, Inv k W → Inv k (W.alloc o))
    (H : ∀ k i n s, fs[k]? = some (i, n, s) → ∀ W, Inv k W → Calls Try.prog 37 #[.agg #[.pointer (some ⟨c, i, none⟩), .int .i64 n, .bool s], .pointer (some ⟨p0, 0, none⟩), .pointer (some ⟨p1, 0, none⟩)] W fun e W' => e = .returned (.tuple #[]) ∧ Inv (k + 1) W')
    (hn : fs.length ≤ 100) (w : World) (h0 : Inv 0 w) :
    Calls Try.prog 32 #[.func (.func 37) #[] #[.pointer (some ⟨p0, 0, none⟩), .pointer (some ⟨p1, 0, none⟩)], .slice (some ⟨b, 0, none⟩) fs.length fs.length] w fun e w' => e = .returned (.tuple #[]) ∧ Inv fs.length w' := by
  have HC := Lib.hid hcell
  have HA := Lib.hid halloc
  have HH := Lib.hid H
  have H0 := Lib.hid h0
  clear hcell halloc H h0
  go_enter Try.func32, Try.ntmps32
  go_wp2
  go_loopw [8] (fun i wr => ∃ k : Nat, k ≤ fs.length ∧ i = .int .i64 k ∧ Inv k wr) (fun i _ => fs.length - (intOf i).toNat)
  case atStart => exact ⟨0, Nat.zero_le _, rfl, H0.out⟩
  case round =>
    obtain ⟨k, hk, rfl, hi⟩ := hrel
    have HI := Lib.hid hi
    clear hi
    by_cases hlt : k < fs.length
    · obtain ⟨⟨i, n, s⟩, hf⟩ : ∃ f, fs[k]? = some f := ⟨_, List.getElem?_eq_getElem hlt⟩
      have hg := fldL_get (c := c) hf
      have d0 : wr.cell? ⟨b, k * 3, none⟩ = some (.pointer (some ⟨c, i, none⟩)) := by simpa using HC.out k wr HI.out _ _ hg.1
      have d1 : wr.cell? ⟨b, k * 3 + 1, none⟩ = some (.int .i64 n) := by simpa using HC.out k wr HI.out _ _ hg.2.1
      have d2 : wr.cell? ⟨b, k * 3 + 2, none⟩ = some (.bool s) := by simpa using HC.out k wr HI.out _ _ hg.2.2
      have HF := Lib.hid hf
      clear hf hg
      go_wp2_with fail
      refine (HH.out k i n s HF.out _ (HA.out k wr _ HI.out)).mono ?_
      rintro e w1 ⟨rfl, h1⟩
      have H1 := Lib.hid h1
      clear h1
      go_wp2
      go_roundw
      case rel => exact ⟨k + 1, by omega, by go_num, H1.out⟩
      case measure => simp [intOf]; omega
    · obtain rfl : k = fs.length := by omega
      go_wp2
      go_end0
      exact ⟨rfl, HI.out⟩

/-- Of no fields. -/
theorem visit_none (f : Value) (w : World) : Calls Try.prog 32 #[f, .slice none 0 0] w fun e w' => e = .returned (.tuple #[]) ∧ w = w' := by
  go_enter Try.func32, Try.ntmps32
  go_wp2
  refine wp_loop_rounds 1 ?_
  rw [rounds_succ]
  go_wp2
  go_end0
  exact ⟨rfl, rfl⟩

end Go.Proofs.Ytecengclcaodeaa
