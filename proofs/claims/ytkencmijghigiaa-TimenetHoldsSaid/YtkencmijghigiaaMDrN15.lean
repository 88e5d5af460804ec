/-
  The reference's draft of a network: what it describes. Plain; where it lies.
-/
import Derived.Maps.AppendAt
import Derived.Deep.CutRange
import Derived.Deep.DeepCutAuto
import Derived.Test.YtkencmijghigiaaMChk15
import Derived.Test.YtkencmijghigiaaMMeas15
namespace Go.Proofs.Ytkencmijghigiaa
open Go.RowKit Go.Lib Go.Shelf Plain

/-- A draft: its slices, where they lie, its numbers. -/
structure Dr where
  pc : Option Addr
  nc : Nat
  kc : Nat
  pp : Option Addr
  np : Nat
  kp : Nat
  pd : Option Addr
  nd : Nat
  kd : Nat
  tu : Int
  ga : Int
  la : Int
  iv : Int
  sy : Int
  cA : Nat → Int
  cB : Nat → Int
  q : Nat → Int
  d : Nat → Int
def Dr.vs (D : Dr) : List Value := [.slice D.pc D.nc D.kc, .slice D.pp D.np D.kp, .slice D.pd D.nd D.kd, .int .u32 D.tu, .int .u32 D.ga, .int .u32 D.la, .int .u32 D.iv, .int .u32 D.sy]
theorem Dr.lit (D : Dr) : D.vs.toArray = #[.slice D.pc D.nc D.kc, .slice D.pp D.np D.kp, .slice D.pd D.nd D.kd, .int .u32 D.tu, .int .u32 D.ga, .int .u32 D.la, .int .u32 D.iv, .int .u32 D.sy] := rfl
theorem Dr.vs_one (D : Dr) : ∀ v ∈ D.vs, v.oneCell' = true := by
  intro v hv
  simp only [Dr.vs, List.mem_cons, List.not_mem_nil, or_false] at hv
  rcases hv with rfl | rfl | rfl | rfl | rfl | rfl | rfl | rfl <;> rfl
structure Dr.In (D : Dr) (w : World) : Prop where
  c : ∀ j, j < D.nc → ∃ b o, D.pc = some ⟨b, o, none⟩ ∧ w.cell? ⟨b, o + j * 2, none⟩ = some (.int .i64 (D.cA j)) ∧ w.cell? ⟨b, o + j * 2 + 1, none⟩ = some (.int .i32 (D.cB j))
  p : ∀ j, j < D.np → ∃ b o, D.pp = some ⟨b, o, none⟩ ∧ w.cell? ⟨b, o + j, none⟩ = some (.int .u8 (D.q j))
  d : ∀ j, j < D.nd → ∃ b o, D.pd = some ⟨b, o, none⟩ ∧ w.cell? ⟨b, o + j, none⟩ = some (.int .u16 (D.d j))
theorem Dr.In.keep {D : Dr} {w W : World} (h : D.In w) (hb : Below w.heap.size w W) : D.In W where
  c j hj := let ⟨b, o, h1, h2, h3⟩ := h.c j hj; ⟨b, o, h1, below_keep hb h2, below_keep hb h3⟩
  p j hj := let ⟨b, o, h1, h2⟩ := h.p j hj; ⟨b, o, h1, below_keep hb h2⟩
  d j hj := let ⟨b, o, h1, h2⟩ := h.d j hj; ⟨b, o, h1, below_keep hb h2⟩
structure Dr.Bd (D : Dr) : Prop where
  tu0 : 0 ≤ D.tu
  tu1 : D.tu ≤ 4294967295
  ga0 : 0 ≤ D.ga
  ga1 : D.ga ≤ 4294967295
  la0 : 0 ≤ D.la
  la1 : D.la ≤ 4294967295
  iv0 : 0 ≤ D.iv
  iv1 : D.iv ≤ 4294967295
  sy0 : 0 ≤ D.sy
  sy1 : D.sy ≤ 4294967295
  q : ∀ j, j < D.np → 0 ≤ D.q j ∧ D.q j ≤ 255
  d : ∀ j, j < D.nd → 0 ≤ D.d j ∧ D.d j ≤ 65535

/-- The numbers that it describes. -/
def dTu (D : Dr) : Int := D.tu % 1048577
def dGa (D : Dr) : Int := 10000 + D.ga % 1048576
def dSt (D : Dr) : Int := dGa D + 20000 + dTu D + D.la % 1048576
def dIv (D : Dr) : Int := 1 + D.iv % 4194304
def dSy (D : Dr) : Int := D.sy % 1048577
def dCa (D : Dr) (j : Nat) : Int := if j < D.nc then D.cA j else 0
def dCb (D : Dr) (j : Nat) : Int := if j < D.nc then D.cB j else 0
def dCO (D : Dr) (j : Nat) : Int := (dCa D j).tmod 1099511627777
def dCP (D : Dr) (j : Nat) : Int := (dCb D j).tmod 200001
def dPa (D : Dr) (j : Nat) : Int := if j = 0 then -1 else if j < D.np then D.q j % (j : Int) else (j : Int) - 1
def dDe (D : Dr) (j : Nat) : Int := if j = 0 then 0 else if j < D.nd then D.d j % 10001 else 0
def dM (D : Dr) : Nat := max 1 (min 12 D.nc)
def dClks (D : Dr) (i : Nat) : List Value := (List.range i).flatMap fun j => [.int .i64 (dCO D j), .int .i64 (dCP D j)]
def dPars (D : Dr) (i : Nat) : List Value := (List.range i).map fun j => .int .i64 (dPa D j)
def dDels (D : Dr) (i : Nat) : List Value := (List.range i).map fun j => .int .i64 (dDe D j)
theorem dClks_snoc (D : Dr) (i : Nat) : dClks D (i + 1) = dClks D i ++ [.int .i64 (dCO D i), .int .i64 (dCP D i)] := by simp [dClks, List.range_succ]
theorem dPars_snoc (D : Dr) (i : Nat) : dPars D (i + 1) = dPars D i ++ [.int .i64 (dPa D i)] := by simp [dPars, List.range_succ]
theorem dDels_snoc (D : Dr) (i : Nat) : dDels D (i + 1) = dDels D i ++ [.int .i64 (dDe D i)] := by simp [dDels, List.range_succ]

end Go.Proofs.Ytkencmijghigiaa
