/-
  ptp.visit, writing. No conditions.
-/
import Derived.Test.YtecengclcaodeaaEncW
namespace Go.Proofs.Ytecengclcaodeaa
open Go.RowKit Go.Lib Plain

/-- The bytes of some fields of a codec's numbers. -/
def encF (M : List Int) : List Fld → List Int
  | [] => []
  | (i, n, _) :: r => beB (M.getD i 0) n.toNat ++ encF M r
theorem encF_take {M : List Int} {l : List Fld} {k : Nat} {f : Fld} (h : l[k]? = some f) : encF M (l.take (k + 1)) = encF M (l.take k) ++ beB (M.getD f.1 0) f.2.1.toNat := by
  induction l generalizing k with
  | nil => simp at h
  | cons g r ih =>
    cases k with
    | zero => simp at h; subst h; obtain ⟨i, n, s⟩ := g; simp [encF]
    | succ k =>
      have := ih (k := k) (by simpa using h)
      obtain ⟨i, n, s⟩ := g
      simp only [List.take_succ_cons, encF] at this ⊢
      rw [this, List.append_assoc]
theorem encF_len {M : List Int} {l : List Fld} (h : Fine l) : ((encF M l).length : Int) = tot l := by
  induction l with
  | nil => rfl
  | cons g r ih =>
    obtain ⟨i, n, s⟩ := g
    have h1 : 1 ≤ n ∧ n ≤ 8 := h (i, n, s) (by simp)
    have h2 := ih fun f hf => h f (by simp [hf])
    simp only [encF, tot, List.length_append, beB_len]
    omega
theorem encF_bd (M : List Int) (l : List Fld) : Bytes (encF M l) := by
  induction l with
  | nil => intro b hb; simp [encF] at hb
  | cons g r ih =>
    obtain ⟨i, n, s⟩ := g
    intro b hb
    simp only [encF, List.mem_append] at hb
    exact hb.elim (beB_bd _ _ b) (ih b)
theorem encF_append (M : List Int) (a b : List Fld) : encF M (a ++ b) = encF M a ++ encF M b := by
  induction a with
  | nil => rfl
  | cons g r ih =>
    obtain ⟨i, n, s⟩ := g
    simp [encF, ih]
theorem tot_take_le {l : List Fld} (h : Fine l) (k : Nat) : tot (l.take k) ≤ tot l := by
  induction l generalizing k with
  | nil => simp [tot]
  | cons g r ih =>
    have h1 := h g (by simp)
    cases k with
    | zero => simpa [tot] using tot_pos (l := g :: r) h
    | succ k =>
      have := ih (fun f hf => h f (by simp [hf])) k
      simp only [List.take_succ_cons, tot]
      omega

theorem Row.alloc {base Bb g : Nat} {xs : List Int} {w : World} (h : Row base Bb g xs w) (o : Obj) : Row base Bb g xs (w.alloc o) := by
  obtain ⟨cap, hc, ho⟩ := h.cell
  have hl := World.block_lt_of_cell? _ _ hc
  exact ⟨⟨cap, by rw [World.cell?_alloc_lt _ _ _ hl]; exact hc, ho.alloc _⟩, by rw [World.frozen?_alloc_old _ _ _ (Nat.ne_of_lt hl)]; exact h.free, h.apart⟩
theorem Row.lt {base Bb g : Nat} {xs : List Int} {w : World} (h : Row base Bb g xs w) : Bb < w.heap.size ∧ g < w.heap.size ∧ base ≤ g := by
  obtain ⟨cap, hc, ho⟩ := h.cell
  exact ⟨World.block_lt_of_cell? _ _ hc, (ho.lt g rfl).2, (ho.lt g rfl).1⟩
theorem Row.but {base Bb g : Nat} {xs : List Int} {w w' : World} {out : Nat → Prop} (h : Row base Bb g xs w) (hb : But out w w') (h1 : ¬ out Bb) (h2 : ¬ out g) : Row base Bb g xs w' := by
  obtain ⟨cap, hc, ho⟩ := h.cell
  obtain ⟨l1, l2, l3⟩ := h.lt
  refine ⟨⟨cap, (hb.cell l1 h1).trans hc, ?_⟩, (hb.frozen l1 h1).trans h.free, h.apart⟩
  refine ⟨ho.1, ?_⟩
  rcases ho.2 with ⟨hn, _⟩ | ⟨g2, cap2, cur, hv, hbs, hh, rest⟩
  · simp at hn
  · injection hv with e1 _ e3
    injection e1 with e1
    injection e1 with e1
    subst e1
    subst e3
    exact Or.inr ⟨_, _, cur, rfl, hbs, (hb.block _ l2 h2).trans hh, rest⟩

/-- visit, writing. -/
theorem visit_writes (Bb b c base g : Nat) (fs : List Fld) (hfs : Fine fs) (hn : fs.length ≤ 100) (M : List Int) (hM : ∀ f ∈ fs, f.1 < M.length) (xs : List Int) (w : World) (hr : Row base Bb g xs w) (hb : base ≤ w.heap.size) (hl : (xs.length : Int) + tot fs ≤ 100)
    (hC : Holds w c (M.map (Value.int .i64))) (hc : c < w.heap.size) (hcB : c ≠ Bb) (hcg : c ≠ g) (hH : Holds w b (fldL c fs)) (hbl : b < w.heap.size) (hbB : b ≠ Bb) (hbg : b ≠ g) :
    Calls Try.prog 32 #[.func (.func 34) #[] #[.pointer (some ⟨Bb, 0, none⟩)], .slice (some ⟨b, 0, none⟩) fs.length fs.length] w fun e w' => e = .returned (.tuple #[]) ∧ ∃ g', Row base Bb g' (xs ++ encF M fs) w' ∧ But (fun k => k = Bb ∨ k = g) w w' ∧ (g' = g ∨ w.heap.size ≤ g') := by
  refine (visit_write Bb b c fs (fun k W => ∃ g', Row base Bb g' (xs ++ encF M (fs.take k)) W ∧ But (fun k => k = Bb ∨ k = g) w W ∧ (g' = g ∨ w.heap.size ≤ g')) (fun k W ⟨_, _, h, _⟩ => h.holds hH hbl (fun e => e.elim hbB hbg))
    (fun k W o ⟨g', h1, h2, h3⟩ => ⟨g', h1.alloc o, h2.alloc o, h3⟩)
    (fun k i n s hk W ⟨g', h1, h2, h3⟩ => ?_) hn w ⟨g, by simpa [encF] using hr, But.refl, Or.inl rfl⟩).mono fun e w' h => ⟨h.1, by simpa using h.2⟩
  have h4 : 1 ≤ n ∧ n ≤ 8 := hfs (i, n, s) (List.mem_of_getElem? hk)
  have h5 := encF_len (M := M) (hfs.take k)
  have h6 := tot_take_le hfs k
  have h7 : (((n.toNat : Nat) : Int)) = n := by omega
  have h8 : i < M.length := hM (i, n, s) (List.mem_of_getElem? hk)
  have hs := h2.size
  have hcell : W.cell? ⟨c, i, none⟩ = some (.int .i64 (M.getD i 0)) := by
    have := h2.holds hC hc (fun e => e.elim hcB hcg) i (.int .i64 (M.getD i 0)) (by simp [h8])
    simpa using this
  rw [← h7]
  refine (write_any i c Bb base g' n.toNat s (M.getD i 0) (xs ++ encF M (fs.take k)) W hcell h1 (by omega) (by omega) (by omega) (by simp only [List.length_append]; omega) hcB (by omega)).mono fun e w' k' => ⟨k'.1, ?_⟩
  obtain ⟨g2, r1, r2, r3⟩ := k'.2
  refine ⟨g2, ?_, h2.trans r2 (fun x hx e => e.imp id (by intro e; omega)), by omega⟩
  rw [encF_take hk, ← List.append_assoc]
  exact r1

end Go.Proofs.Ytecengclcaodeaa
