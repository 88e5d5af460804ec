/-
  The arguments of PassHolds, opened.
-/
import Derived.Test.YtkbadnehngogjaaLift
namespace Go.Proofs.Ytkbadnehngogjaa
open Go.RowKit Go.Lib Go.Joins
open Go.ChangeShapes Go.WideShapes Go.ChangeAt

section
variable {H : Type} {enc : TypeId × Value → H} {W : World} {base : Nat} {v : Value} {d : DataW H} {p : List MemPlace}
set_option maxRecDepth 100000 in
theorem open_two {t e : TypeId} (hu : Try.prog.underlying t = some (.array 2 e)) (hv : Value.okWide Try.prog W .any base t v) (h : DataW.Trod enc Try.prog W 0 (fun _ => true) true t v d p) :
    ∃ (cs : Array Value) (n : Nat) (y0 y1 : DataW H × List MemPlace), v = .agg cs ∧ cs.size = Try.prog.cellsOf t ∧
      DataW.trod enc Try.prog W 0 (fun _ => true) true n e (cs.toList.take (Try.prog.cellsOf e)) = some y0 ∧ DataW.trod enc Try.prog W 0 (fun _ => true) true n e ((cs.toList.drop (Try.prog.cellsOf e)).take (Try.prog.cellsOf e)) = some y1 := by
  simp only [Value.okWide, hu] at hv
  obtain ⟨cs, rfl, h2, _⟩ := hv
  obtain ⟨fuel, hf⟩ := h
  cases fuel with
  | zero => simp [DataW.trod] at hf
  | succ n =>
    rw [DataW.trod_step] at hf
    unfold DataW.trodStep at hf
    simp only [hu, Value.cells] at hf
    rw [if_pos (by simpa using h2)] at hf
    simp only [Option.map_eq_some_iff] at hf
    obtain ⟨xs, hx, e1⟩ := hf
    rw [show List.range 2 = [0, 1] from rfl, List.mapM_cons, List.mapM_cons, List.mapM_nil] at hx
    simp only [bind, Option.bind_eq_some_iff, pure, Option.some.injEq] at hx
    obtain ⟨y0, h0, _, ⟨y1, h1, _, rfl, rfl⟩, rfl⟩ := hx
    exact ⟨cs, n, y0, y1, rfl, h2, by simpa using h0, by simpa using h1⟩

set_option maxRecDepth 100000 in
theorem open_draft09s (hv : Value.okWide Try.prog W .any base 68 v) (h : DataW.Trod enc Try.prog W 0 (fun _ => true) true 68 v d p) :
    ∃ a b a' b' : Int, v = .agg #[.int .i64 a, .int .i32 b, .int .i64 a', .int .i32 b'] := by
  obtain ⟨cs, n, y0, y1, rfl, hs, h0, h1⟩ := open_two (e := 67) (by kernel_rfl) hv h
  obtain ⟨c0, c1, c2, c3, rfl⟩ := array4 (hs.trans (by kernel_rfl))
  rw [show Try.prog.cellsOf 67 = 2 by kernel_rfl] at h0 h1
  obtain ⟨z0, z1, n, _, _, k0, k1⟩ := trod_struct2 Try.underlying67 h0
  obtain ⟨z2, z3, n', _, _, k2, k3⟩ := trod_struct2 Try.underlying67 h1
  obtain ⟨a, e0, _, _⟩ := DataW.trod_int Try.underlying2 k0
  obtain ⟨b, e1, _, _⟩ := DataW.trod_int Try.underlying21 k1
  obtain ⟨a', e2, _, _⟩ := DataW.trod_int Try.underlying2 k2
  obtain ⟨b', e3, _, _⟩ := DataW.trod_int Try.underlying21 k3
  rw [show Try.prog.cellsOf 2 = 1 by kernel_rfl] at e0 e2
  rw [show Try.prog.cellsOf 21 = 1 by kernel_rfl] at e1 e3
  simp at e0 e1 e2 e3
  subst e0 e1 e2 e3
  exact ⟨a, b, a', b', rfl⟩

set_option maxRecDepth 100000 in
theorem open_way (hv : Value.okWide Try.prog W .any base 71 v) (h : DataW.Trod enc Try.prog W 0 (fun _ => true) true 71 v d p) :
    ∃ a b c e f : Int, v = .agg #[.int .u32 a, .int .u16 b, .int .i16 c, .int .i16 e, .int .i16 f] ∧ (0 ≤ a ∧ a ≤ 4294967295) ∧ (0 ≤ b ∧ b ≤ 65535) ∧ (-32768 ≤ c ∧ c ≤ 32767) ∧ (-32768 ≤ e ∧ e ≤ 32767) ∧ (-32768 ≤ f ∧ f ≤ 32767) := by
  obtain ⟨cs, rfl, hsz⟩ := okWide_struct Try.underlying71 hv
  obtain ⟨l⟩ := cs
  match l, hsz.trans (show Try.prog.cellsOf 71 = 5 by kernel_rfl) with
  | [c0, c1, c2, c3, c4], _ =>
    obtain ⟨fuel, hf⟩ := h
    obtain ⟨xs, n, _, _, _, hlen, hg⟩ := DataW.trod_struct Try.underlying71 hf
    match xs, hlen with
    | [y0, y1, y2, y3, y4], _ =>
      have h0 := hg 0 _ rfl
      have h1 := hg 1 _ rfl
      have h2 := hg 2 _ rfl
      have h3 := hg 3 _ rfl
      have h4 := hg 4 _ rfl
      obtain ⟨a, e0, _, w0⟩ := DataW.trod_int Try.underlying63 (by simpa using h0)
      obtain ⟨b, e1, _, w1⟩ := DataW.trod_int Try.underlying48 (by simpa using h1)
      obtain ⟨c, e2, _, w2⟩ := DataW.trod_int Try.underlying69 (by simpa using h2)
      obtain ⟨e, e3, _, w3⟩ := DataW.trod_int Try.underlying69 (by simpa using h3)
      obtain ⟨f, e4, _, w4⟩ := DataW.trod_int Try.underlying69 (by simpa using h4)
      rw [show Try.prog.cellsOf 63 = 1 by kernel_rfl] at e0
      rw [show Try.prog.cellsOf 48 = 1 by kernel_rfl] at e1
      rw [show Try.prog.cellsOf 69 = 1 by kernel_rfl] at e2 e3 e4
      simp [Value.cells] at e0 e1 e2 e3 e4
      subst e0 e1 e2 e3 e4
      simp [Lit.wf, IntKind.min, IntKind.max, IntKind.signed, IntKind.bits] at w0 w1 w2 w3 w4
      exact ⟨a, b, c, e, f, rfl, by omega, by omega, by omega, by omega, by omega⟩
end

end Go.Proofs.Ytkbadnehngogjaa
