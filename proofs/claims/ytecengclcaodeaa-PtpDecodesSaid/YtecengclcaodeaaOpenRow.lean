/-
  A slice of bytes as an argument. No conditions.
-/
import Derived.Test.YtecengclcaodeaaWork10
import Derived.ChangeSlices
import Derived.WideShapes
import Derived.WideShapes
namespace Go.Proofs.Ytecengclcaodeaa
open Go.RowKit Go.Lib Plain
open Go.ChangeShapes Go.WideShapes

/-- The slice at a (or nil, or an empty one) reads these bytes. -/
def LiesO (W : World) (a : Option Addr) (L : List Int) : Prop := L = [] ∨ ∃ blk off, a = some ⟨blk, off, none⟩ ∧ Lies W blk off L
theorem LiesO.keep {w w' : World} {a : Option Addr} {L : List Int} (h : LiesO w a L) (hb : Below w.heap.size w w') : LiesO w' a L := by
  rcases h with h | ⟨b, o, h1, h2⟩
  · exact .inl h
  · exact .inr ⟨b, o, h1, h2.keep hb⟩
theorem LiesO.alloc {w : World} {a : Option Addr} {L : List Int} (h : LiesO w a L) (ob : Obj) : LiesO (w.alloc ob) a L := by
  rcases h with h | ⟨b, o, h1, h2⟩
  · exact .inl h
  · exact .inr ⟨b, o, h1, h2.alloc ob⟩
theorem LiesO.take {w : World} {a : Option Addr} {L : List Int} (h : LiesO w a L) (k : Nat) : LiesO w a (L.take k) := by
  rcases h with h | ⟨b, o, h1, h2⟩
  · exact .inl (by rw [h]; simp)
  · exact .inr ⟨b, o, h1, h2.take k⟩
theorem LiesO.str {w : World} {a : Option Addr} {L : List Int} (h : LiesO w a L) (cap : Nat) : Str w (.slice a L.length cap) L := by
  rcases h with rfl | ⟨b, o, rfl, h2⟩
  · exact str_zero w a cap
  · exact str_lies h2 cap
theorem decodeO {a : Option Addr} {L : List Int} {cap : Nat} (hB : Bytes L) (hcap : L.length ≤ cap) (hcl : cap ≤ 9223372036854775807) (w : World) (h : LiesO w a L) :
    Calls Try.prog 22 #[.slice a L.length cap] w fun e1 w' => e1 = .returned (.tuple #[.agg ((decRes L).map (Value.int .i64)).toArray, .int .i64 (decErr L)]) ∧ Below w.heap.size w w' := by
  by_cases h1 : L = []
  · subst h1
    exact decode_empty a cap w
  · rcases h with h | ⟨b, o, rfl, h2⟩
    · exact absurd h h1
    · exact decode_any b o cap L hB (by have := List.length_pos_iff.2 h1; omega) hcap hcl w h2

theorem cells_u8 : Try.prog.cellsOf 5 = 1 := by kernel_rfl
section
variable {H : Type} {enc : TypeId × Value → H}
theorem open_bytes {W : World} {base : Nat} {v : Value} {d : DataW H} {p : List MemPlace} (hval : Value.okWide Try.prog W .any base 44 v) (h : DataW.Trod enc Try.prog W 0 (fun _ => true) true 44 v d p) :
    ∃ (a : Option Addr) (L : List Int) (cap : Nat), v = .slice a L.length cap ∧ L.length ≤ cap ∧ cap ≤ 9223372036854775807 ∧ Bytes L ∧ LiesO W a L := by
  obtain ⟨a1, len, cap, rfl⟩ := okWide_slice Try.underlying44 hval
  obtain ⟨fuel, hf⟩ := h
  rcases open_ints Try.underlying44 Try.underlying5 cells_u8 hf with ⟨hcs, hx⟩ | ⟨a, len', cap', zs, hcs, _, hl, hm, hz, hx, hcell, hwz⟩
  · simp [Value.cells] at hcs
    obtain ⟨rfl, rfl, rfl⟩ := hcs
    exact ⟨none, [], 0, rfl, by simp, by omega, fun b hb => (by cases hb), .inl rfl⟩
  · simp [Value.cells] at hcs
    obtain ⟨rfl, rfl, rfl⟩ := hcs
    simp only [if_true] at hz
    have hlen : (zs.take len).length = len := by rw [List.length_take]; omega
    refine ⟨some a, zs.take len, cap, by rw [hlen], by omega, by unfold maxLen at hm; omega, fun b hb => ?_, ?_⟩
    · have := hwz b (List.mem_of_mem_take hb)
      simpa [Lit.wf, IntKind.min, IntKind.max, IntKind.signed, IntKind.bits] using this
    · by_cases h0 : len = 0
      · exact .inl (by subst h0; simp)
      · obtain ⟨ab, ao, spot⟩ := a
        have hspot : spot = none := by simpa [Addr.add] using World.cell?_spot (hcell 0 (by omega))
        subst hspot
        refine .inr ⟨ab, ao, rfl, fun j x hx => ?_⟩
        have hj : j < (zs.take len).length := by
          rcases Nat.lt_or_ge j (zs.take len).length with h | h
          · exact h
          · rw [List.getElem?_eq_none h] at hx; cases hx
        have hc := hcell j (by omega)
        rw [Addr.add_lit] at hc
        rw [List.getElem?_take, if_pos (by omega)] at hx
        rw [hc, List.getD_eq_getElem?_getD, hx]
        rfl
end

end Go.Proofs.Ytecengclcaodeaa
