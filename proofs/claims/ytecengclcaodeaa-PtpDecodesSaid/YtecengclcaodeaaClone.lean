/-
  bytes.Clone of a row that lies there; slices of another length are not decoded. No conditions.
-/
import Derived.Test.YtecengclcaodeaaDrfEnc
import Derived.Test.YtecengclcaodeaaWork10
import Derived.Deep.AppendLies
import Derived.Lib.LazyBuf
namespace Go.Proofs.Ytecengclcaodeaa
open Go.RowKit Go.Lib Plain

theorem owned_cap {w : World} {base g cap n : Nat} {xs : List Value} (h : w.ownsRow base 5 1 (.slice (some ⟨g, 0, none⟩) n cap) n xs) : n ≤ cap ∧ cap ≤ 9223372036854775807 ∧ base ≤ g := by
  rcases h.2 with ⟨h1, _⟩ | ⟨g', cap', cur, hv, hb, hg, h1, h2, _⟩
  · cases h1
  · cases hv
    unfold maxLen at h2
    exact ⟨h1, by omega, hb⟩

/-- Bytes of another length with the same first byte are not decoded. -/
theorem dec_other {k : Int} {r r' : List Int} (h : decErr (k :: r) = 0) (hl : r'.length ≠ r.length) : decErr (k :: r') = 5 ∧ decRes (k :: r') = [0, 0, 0, 0, 0, 0, 0, 0, 0, 0, 0, 0, 0, 0, 0, 0, 0] := by
  have hg : sizeV k ≠ 0 ∧ ((k :: r).length : Int) = sizeV k := by
    by_cases hg : sizeV k ≠ 0 ∧ ((k :: r).length : Int) = sizeV k
    · exact hg
    · rw [decErr, if_neg hg] at h
      cases h
  have hn : ¬ (sizeV k ≠ 0 ∧ ((k :: r').length : Int) = sizeV k) := by
    simp only [List.length_cons] at hg ⊢
    omega
  exact ⟨by rw [decErr, if_neg hn], by rw [decRes, if_neg hn]⟩
theorem dec_long {L : List Int} (h : decErr L = 0) (x : Int) : decErr (L ++ [x]) = 5 := by
  match L, h with
  | k :: r, h => exact (dec_other (r' := r ++ [x]) h (by simp)).1
theorem dec_short {L : List Int} (h : decErr L = 0) (i : Nat) (hi : i < L.length) : decErr (L.take i) = 5 := by
  match L, h, i, hi with
  | k :: r, _, 0, _ => rfl
  | k :: r, h, i + 1, hi => exact (dec_other (r' := r.take i) h (by simp at hi ⊢; omega)).1

theorem Lies.news {w : World} {b o : Nat} {L : List Int} (h : Lies w b o L) : ∀ (j : Nat) (u : Value), (bys L)[j]? = some u → w.cell? ((⟨b, o, none⟩ : Addr).add j) = some u := fun j u hu => by
  rw [List.getElem?_map] at hu
  obtain ⟨x, hx, rfl⟩ := Option.map_eq_some_iff.1 hu
  have hadd : (⟨b, o, none⟩ : Addr).add j = ⟨b, o + j, none⟩ := by unfold Addr.add; split <;> simp_all
  rw [hadd]
  exact h j x hx
theorem not_nil (a : Addr) (n cap : Nat) (W : World) : (binOp .eql 44 (.slice (some a) n cap) (.slice none 0 0)).run Try.prog W = .ok (.bool false) W :=
  run_eql_slice_nil W 44 5 (some a) n cap Try.underlying44

set_option maxHeartbeats 4000000 in
theorem clone_any (g cap : Nat) (L : List Int) (h1 : 1 ≤ L.length) (h2 : L.length ≤ 100) (w : World) (hl : Lies w g 0 L) :
    Calls Try.prog 25 #[.slice (some ⟨g, 0, none⟩) L.length cap] w fun e w' => ∃ g1 cap1, e = .returned (.slice (some ⟨g1, 0, none⟩) L.length cap1) ∧ w'.ownsRow w.heap.size 5 1 (.slice (some ⟨g1, 0, none⟩) L.length cap1) L.length (bys L) ∧ Below w.heap.size w w' := by
  obtain ⟨i0, hi0, hz0, hz1, hz2⟩ := info_parts Try.infoByte
  have HL := Lib.hid hl
  have hnn := fun W => not_nil ⟨g, 0, none⟩ L.length cap W
  clear hl
  go_enter Try.func25, Try.ntmps25
  go_wp2_with (at_builtin; refine wpList_append_lies _ rfl _ _ 44 rfl w.heap.size 5 i0 (.int .u8 0) 1 1 Try.underlying44 hi0 hz0 hz1 hz2 rfl (by decide) (.slice (some ⟨w.heap.size, 0, none⟩) 0 0) 0 [] rfl (owns_new w [] w.heap.size (Nat.le_refl _) (by simp)) ⟨g, 0, none⟩ L.length cap (bys L) rfl (by simp) (HL.out.alloc _).news (ints_oneCell .u8 L) (by omega) (by unfold maxLen; omega) (by omega) (by simp) (w.heap.size + 1) (by simp) ?_; intro g1 cap1 w1 hown hgrow hat hlt)
  have HO := Lib.hid hown
  have HB := Lib.hid (((Below.refl w.heap.size w).alloc (Nat.le_refl _) (.cells #[] 5)).grown hgrow (by simp) (fun k hk => by simp [Value.ownBlock] at hk; omega))
  clear hown hgrow
  go_wp2
  go_ret
  have h := HO.out
  simp only [Nat.zero_add, List.nil_append] at h
  exact ⟨g1, cap1, by simp, h, HB.out⟩

end Go.Proofs.Ytecengclcaodeaa
