/-
  bytes.Equal. No conditions.
-/
import Derived.Test.YtecengclcaodeaaDecR
import Derived.Laws.BytesArg
namespace Go.Proofs.Ytecengclcaodeaa
open Go.RowKit Go.Lib Plain

theorem strOf_inj {a b : List Int} (ha : Bytes a) (hb : Bytes b) (h : strOfNums a = strOfNums b) : a = b := by
  have h1 : (a.map fun n => UInt8.ofNat n.toNat) = b.map fun n => UInt8.ofNat n.toNat := by
    have := congrArg (fun s : ByteArray => s.data.toList) h
    simpa [strOfNums] using this
  clear h
  induction a generalizing b with
  | nil => cases b with | nil => rfl | cons y s => simp at h1
  | cons x r ih =>
    cases b with
    | nil => simp at h1
    | cons y s =>
      simp only [List.map_cons, List.cons.injEq] at h1
      have hx := ha x (by simp)
      have hy := hb y (by simp)
      have e : x = y := by
        have := congrArg UInt8.toNat h1.1
        simp only [UInt8.toNat_ofNat'] at this
        omega
      rw [e, ih (fun b hb2 => ha b (by simp [hb2])) (fun b hb2 => hb b (by simp [hb2])) h1.2]

/-- The slice's bytes, as a string. -/
def Str (w : World) (v : Value) (L : List Int) : Prop := (convert 44 9 v).run Try.prog w = .ok (.string (strOfNums L)) w
theorem str_lies {w : World} {blk off : Nat} {L : List Int} (h : Lies w blk off L) (cap : Nat) : Str w (.slice (some ⟨blk, off, none⟩) L.length cap) L :=
  run_convert_bytes_arg w 44 5 Try.underlying44 Try.underlying5 blk off L.length cap L rfl (fun i hi => h i _ (by simp [hi])) _ Try.underlying9
theorem str_zero (w : World) (a : Option Addr) (cap : Nat) : Str w (.slice a 0 cap) [] := by
  unfold Str
  rw [run_convert_bytes_string w 44 9 5 _ 0 cap Try.underlying44 Try.underlying5 Try.underlying9]
  cases a <;> simp [Conv.bytesToString, loadCells]
  all_goals rfl

/-- bytes.Equal -/
theorem equal_any (v1 v2 : Value) (a b : List Int) (ha : Bytes a) (hb : Bytes b) (w : World) (h1 : Str w v1 a) (h2 : Str w v2 b) :
    Calls Try.prog 20 #[v1, v2] w fun e w' => e = .returned (.bool (decide (a = b))) ∧ w = w' := by
  unfold Str at h1 h2
  go_enter Try.func20, Try.ntmps20
  go_wp2
  go_ret
  refine ⟨ret_bool ?_, rfl⟩
  by_cases h : a = b
  · subst h
    simp
  · rw [decide_eq_false h]
    have : strOfNums a ≠ strOfNums b := fun e => h (strOf_inj ha hb e)
    have h2 : ¬ (strOfNums a).toList = (strOfNums b).toList := fun e => this (by
      rw [ByteArray.toList_eq, ByteArray.toList_eq] at e
      generalize strOfNums a = x at *
      generalize strOfNums b = y at *
      obtain ⟨⟨x⟩⟩ := x
      obtain ⟨⟨y⟩⟩ := y
      simp at e
      rw [e])
    simp [h2]

/-- What a row owns lies there. -/
theorem lies_owned {w : World} {base g cap : Nat} {L : List Int} (h : w.ownsRow base 5 1 (.slice (some ⟨g, 0, none⟩) L.length cap) L.length (bys L)) : Lies w g 0 L := fun j x hx => by
  have := h.cells (g := g) rfl j (.int .u8 x) (by simp [hx])
  have hadd : (⟨g, 0, none⟩ : Addr).add j = ⟨g, 0 + j, none⟩ := by unfold Addr.add; split <;> simp_all
  rw [hadd] at this
  exact this

end Go.Proofs.Ytecengclcaodeaa
