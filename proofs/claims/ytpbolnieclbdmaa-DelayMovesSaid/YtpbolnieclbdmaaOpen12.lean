/-
  The arguments of the laws of delay, opened.
-/
import Derived.Test.YtpbolnieclbdmaaLift
namespace Go.Proofs.Ytpbolnieclbdmaa
open Go.RowKit Go.Lib Go.Joins
open Go.ChangeShapes Go.WideShapes Go.ChangeAt

section
variable {H : Type} {enc : TypeId × Value → H} {W : World} {base : Nat} {v : Value} {d : DataW H} {p : List MemPlace}
theorem open_two {t e : TypeId} (hu : Try.prog.underlying t = some (.array 2 e)) (hv : Value.okWide Try.prog W .any base t v) (h : DataW.Trod enc Try.prog W 0 (fun _ => true) true t v d p) :
    ∃ (cs : Array Value) (n : Nat) (y0 y1 : DataW H × List MemPlace), v = .agg cs ∧ cs.size = Try.prog.cellsOf t ∧
      DataW.trod enc Try.prog W 0 (fun _ => true) true n e (cs.toList.take (Try.prog.cellsOf e)) = some y0 ∧ DataW.trod enc Try.prog W 0 (fun _ => true) true n e ((cs.toList.drop (Try.prog.cellsOf e)).take (Try.prog.cellsOf e)) = some y1 := by
  simp only [Value.okWide, hu] at hv
  obtain ⟨cs, rfl, h2, _⟩ := hv
  obtain ⟨fuel, hf⟩ := h
  cases fuel with
  | zero => simp [DataW.trod] at hf
  | succ n =>
    rw [DataW.trod_step] at hf
    unfold DataW.trodStep at hf
    simp only [hu, Value.cells] at hf
    rw [if_pos (by simpa using h2)] at hf
    simp only [Option.map_eq_some_iff] at hf
    obtain ⟨xs, hx, e1⟩ := hf
    rw [show List.range 2 = [0, 1] from rfl, List.mapM_cons, List.mapM_cons, List.mapM_nil] at hx
    simp only [bind, Option.bind_eq_some_iff, pure, Option.some.injEq] at hx
    obtain ⟨y0, h0, _, ⟨y1, h1, _, rfl, rfl⟩, rfl⟩ := hx
    exact ⟨cs, n, y0, y1, rfl, h2, by simpa using h0, by simpa using h1⟩

theorem open_draft09s (hv : Value.okWide Try.prog W .any base 40 v) (h : DataW.Trod enc Try.prog W 0 (fun _ => true) true 40 v d p) :
    ∃ a b a' b' : Int, v = .agg #[.int .i64 a, .int .i32 b, .int .i64 a', .int .i32 b'] := by
  obtain ⟨cs, n, y0, y1, rfl, hs, h0, h1⟩ := open_two (e := 39) (by kernel_rfl) hv h
  obtain ⟨c0, c1, c2, c3, rfl⟩ := array4 (hs.trans (by kernel_rfl))
  rw [show Try.prog.cellsOf 39 = 2 by kernel_rfl] at h0 h1
  obtain ⟨z0, z1, n, _, _, k0, k1⟩ := trod_struct2 Try.underlying39 h0
  obtain ⟨z2, z3, n', _, _, k2, k3⟩ := trod_struct2 Try.underlying39 h1
  obtain ⟨a, e0, _, _⟩ := DataW.trod_int Try.underlying2 k0
  obtain ⟨b, e1, _, _⟩ := DataW.trod_int Try.underlying21 k1
  obtain ⟨a', e2, _, _⟩ := DataW.trod_int Try.underlying2 k2
  obtain ⟨b', e3, _, _⟩ := DataW.trod_int Try.underlying21 k3
  rw [show Try.prog.cellsOf 2 = 1 by kernel_rfl] at e0 e2
  rw [show Try.prog.cellsOf 21 = 1 by kernel_rfl] at e1 e3
  simp at e0 e1 e2 e3
  subst e0 e1 e2 e3
  exact ⟨a, b, a', b', rfl⟩

theorem open_exch (hv : Value.okWide Try.prog W .any base 23 v) (h : DataW.Trod enc Try.prog W 0 (fun _ => true) true 23 v d p) :
    ∃ a b c e : Int, v = .agg #[.int .i64 a, .int .i64 b, .int .i64 c, .int .i64 e] := by
  obtain ⟨v0, v1, v2, v3, y0, y1, y2, y3, n, rfl, rfl, rfl, h0, h1, h2, h3⟩ := open_agg4 Try.underlying23 (by kernel_rfl) (by kernel_rfl) hv h
  obtain ⟨a, e0, _, _⟩ := DataW.trod_int Try.underlying3 h0
  obtain ⟨b, e1, _, _⟩ := DataW.trod_int Try.underlying3 h1
  obtain ⟨c, e2, _, _⟩ := DataW.trod_int Try.underlying3 h2
  obtain ⟨e, e3, _, _⟩ := DataW.trod_int Try.underlying3 h3
  simp at e0 e1 e2 e3
  subst e0 e1 e2 e3
  exact ⟨a, b, c, e, rfl⟩
theorem open_span (hv : Value.okWide Try.prog W .any base 56 v) (h : DataW.Trod enc Try.prog W 0 (fun _ => true) true 56 v d p) :
    ∃ a b c e : Int, v = .agg #[.int .u32 a, .int .u32 b, .int .u32 c, .int .u32 e] ∧ (0 ≤ a ∧ a ≤ 4294967295) ∧ (0 ≤ b ∧ b ≤ 4294967295) ∧ (0 ≤ c ∧ c ≤ 4294967295) ∧ (0 ≤ e ∧ e ≤ 4294967295) := by
  obtain ⟨v0, v1, v2, v3, y0, y1, y2, y3, n, rfl, rfl, rfl, h0, h1, h2, h3⟩ := open_agg4 Try.underlying56 (by kernel_rfl) (by kernel_rfl) hv h
  obtain ⟨a, e0, _, w0⟩ := DataW.trod_int Try.underlying54 h0
  obtain ⟨b, e1, _, w1⟩ := DataW.trod_int Try.underlying54 h1
  obtain ⟨c, e2, _, w2⟩ := DataW.trod_int Try.underlying54 h2
  obtain ⟨e, e3, _, w3⟩ := DataW.trod_int Try.underlying54 h3
  simp at e0 e1 e2 e3
  subst e0 e1 e2 e3
  simp [Lit.wf, IntKind.min, IntKind.max, IntKind.signed, IntKind.bits] at w0 w1 w2 w3
  exact ⟨a, b, c, e, rfl, by omega, by omega, by omega, by omega⟩
theorem open_clocks2 (hv : Value.okWide Try.prog W .any base 37 v) (h : DataW.Trod enc Try.prog W 0 (fun _ => true) true 37 v d p) :
    ∃ a b a' b' : Int, v = .agg #[.int .i64 a, .int .i64 b, .int .i64 a', .int .i64 b'] := by
  obtain ⟨cs, n, y0, y1, rfl, hs, h0, h1⟩ := open_two (e := 36) (by kernel_rfl) hv h
  obtain ⟨c0, c1, c2, c3, rfl⟩ := array4 (hs.trans (by kernel_rfl))
  rw [show Try.prog.cellsOf 36 = 2 by kernel_rfl] at h0 h1
  obtain ⟨z0, z1, n, _, _, k0, k1⟩ := trod_struct2 Try.underlying36 h0
  obtain ⟨z2, z3, n', _, _, k2, k3⟩ := trod_struct2 Try.underlying36 h1
  obtain ⟨a, e0, _, _⟩ := DataW.trod_int Try.underlying3 k0
  obtain ⟨b, e1, _, _⟩ := DataW.trod_int Try.underlying3 k1
  obtain ⟨a', e2, _, _⟩ := DataW.trod_int Try.underlying3 k2
  obtain ⟨b', e3, _, _⟩ := DataW.trod_int Try.underlying3 k3
  rw [show Try.prog.cellsOf 3 = 1 by kernel_rfl] at e0 e1 e2 e3
  simp at e0 e1 e2 e3
  subst e0 e1 e2 e3
  exact ⟨a, b, a', b', rfl⟩
end

end Go.Proofs.Ytpbolnieclbdmaa
