/-
  ptp.kinds and the look-up in what it makes. No conditions.
-/
import Derived.Test.YtecengclcaodeaaPtpChk0
import Derived.Deep.RegionHeld3
import Derived.BigQuiet
import Derived.WalkMore
import Derived.MapKept
namespace Go.Proofs.Ytecengclcaodeaa
open Go.RowKit Go.Lib Plain

theorem set_push (w : World) (o o' : Obj) : ({ w.alloc o with heap := (w.alloc o).heap.setIfInBounds w.heap.size o' } : World) = w.alloc o' := by
  have e : ∀ x : Obj, (w.alloc x).heap = w.heap.push x := fun _ => rfl
  have h : (w.heap.push o).setIfInBounds w.heap.size o' = w.heap.push o' := by
    apply Array.ext'
    simp
  rw [e, h]
  rfl

theorem ins_alloc (es : Array MapEntry) (c : Nat) (k : Int) (v : Value) (w : World) (h : Instr.findNow (.int .i64) (.int .i64 k) es.toList 0 = some none) :
    (Instr.mapUpdate 66 (.map (some w.heap.size)) (.int .i64 k) v).run Try.prog (w.alloc (.map es c)) = .ok () (w.alloc (.map (es.push { key := .int .i64 k, val := v, born := c }) (c + 1))) := by
  have hk : Try.prog.underlying 3 = some (.int .i64) := by kernel_rfl
  have hm : Try.prog.underlying 66 = some (.map 3 64) := by kernel_rfl
  have hb := (MapKept.heap_alloc w (.map es c)).1
  have hc : (Instr.checkKey false 10000 3 (.int .i64 k)).run Try.prog (w.alloc (.map es c)) = .ok () (w.alloc (.map es c)) := MapKept.run_checkKey (k := .int .i64 k) hk (by simp [MapKept.IsKey]) false 9999
  simp [Instr.mapUpdate, run_underlying hm, MapKept.run_getObj_map hb, hc, MapKept.run_findKey hk h, MapKept.run_setObj_map _ hb, Result.andThen]
  exact set_push w _ _

/-- What kinds makes. -/
def kindsM : Array MapEntry := #[{ key := .int .i64 0, val := .func (.func 42) #[] #[], born := 0 }, { key := .int .i64 2, val := .func (.func 42) #[] #[], born := 1 }, { key := .int .i64 3, val := .func (.func 43) #[] #[], born := 2 }, { key := .int .i64 10, val := .func (.func 43) #[] #[], born := 3 }, { key := .int .i64 8, val := .func (.func 44) #[] #[], born := 4 }, { key := .int .i64 11, val := .func (.func 45) #[] #[], born := 5 }]

/-- ptp.kinds -/
theorem kinds_any (w : World) : Calls Try.prog 30 #[] w fun e w' => e = .returned (.map (some w.heap.size)) ∧ w' = w.alloc (.map kindsM 6) := by
  have hmm := @run_makeMap Try.prog
  have k0 := ins_alloc #[] 0 0 (.func (.func 42) #[] #[]) w rfl
  have k1 := ins_alloc #[{ key := .int .i64 0, val := .func (.func 42) #[] #[], born := 0 }] 1 2 (.func (.func 42) #[] #[]) w rfl
  have k2 := ins_alloc #[{ key := .int .i64 0, val := .func (.func 42) #[] #[], born := 0 }, { key := .int .i64 2, val := .func (.func 42) #[] #[], born := 1 }] 2 3 (.func (.func 43) #[] #[]) w rfl
  have k3 := ins_alloc #[{ key := .int .i64 0, val := .func (.func 42) #[] #[], born := 0 }, { key := .int .i64 2, val := .func (.func 42) #[] #[], born := 1 }, { key := .int .i64 3, val := .func (.func 43) #[] #[], born := 2 }] 3 10 (.func (.func 43) #[] #[]) w rfl
  have k4 := ins_alloc #[{ key := .int .i64 0, val := .func (.func 42) #[] #[], born := 0 }, { key := .int .i64 2, val := .func (.func 42) #[] #[], born := 1 }, { key := .int .i64 3, val := .func (.func 43) #[] #[], born := 2 }, { key := .int .i64 10, val := .func (.func 43) #[] #[], born := 3 }] 4 8 (.func (.func 44) #[] #[]) w rfl
  have k5 := ins_alloc #[{ key := .int .i64 0, val := .func (.func 42) #[] #[], born := 0 }, { key := .int .i64 2, val := .func (.func 42) #[] #[], born := 1 }, { key := .int .i64 3, val := .func (.func 43) #[] #[], born := 2 }, { key := .int .i64 10, val := .func (.func 43) #[] #[], born := 3 }, { key := .int .i64 8, val := .func (.func 44) #[] #[], born := 4 }] 5 11 (.func (.func 45) #[] #[]) w rfl
  go_enter Try.func30, Try.ntmps30
  go_wp2
  go_ret
  exact ⟨rfl, rfl⟩

section
variable {W : World} {B : Nat} (hb : W.heap[B]? = some (.map kindsM 6))
include hb
theorem look_any {a : Option (Nat × Value)} (K : Int) (h : Instr.findNow (.int .i64) (.int .i64 K) kindsM.toList 0 = some a) (ok : Bool) (v : Value) (f : Bool) (hv : (match a with | some (_, v) => pure (v, true) | none => do pure (← zeroValue 64, false) : Sem (Value × Bool)).run Try.prog W = .ok (v, f) W) :
    (Instr.lookup 66 (.map (some B)) (.int .i64 K) ok).run Try.prog W = .ok (if ok then .tuple #[v, .bool f] else v) W := by
  have hk : Try.prog.underlying 3 = some (.int .i64) := by kernel_rfl
  have hm : Try.prog.underlying 66 = some (.map 3 64) := by kernel_rfl
  have hc : ∀ e, (Instr.checkKey e 10000 3 (.int .i64 K)).run Try.prog W = .ok () W := fun e => MapKept.run_checkKey (k := .int .i64 K) hk (by simp [MapKept.IsKey]) e 9999
  rcases a with _ | ⟨i, u⟩
  · simp [Result.andThen] at hv
    cases ok <;> simp [Instr.lookup, run_underlying hm, MapKept.run_getObj_map hb, hc, MapKept.run_findKey hk h, Result.andThen, hv]
  · simp at hv
    obtain ⟨rfl, rfl⟩ := hv
    cases ok <;> simp [Instr.lookup, run_underlying hm, MapKept.run_getObj_map hb, hc, MapKept.run_findKey hk h, Result.andThen]
theorem look_0 (ok : Bool) : (Instr.lookup 66 (.map (some B)) (.int .i64 0) ok).run Try.prog W = .ok (if ok then .tuple #[.func (.func 42) #[] #[], .bool true] else .func (.func 42) #[] #[]) W := look_any hb 0 (a := some (0, _)) rfl ok _ true rfl
theorem look_2 (ok : Bool) : (Instr.lookup 66 (.map (some B)) (.int .i64 2) ok).run Try.prog W = .ok (if ok then .tuple #[.func (.func 42) #[] #[], .bool true] else .func (.func 42) #[] #[]) W := look_any hb 2 (a := some (1, _)) rfl ok _ true rfl
theorem look_3 (ok : Bool) : (Instr.lookup 66 (.map (some B)) (.int .i64 3) ok).run Try.prog W = .ok (if ok then .tuple #[.func (.func 43) #[] #[], .bool true] else .func (.func 43) #[] #[]) W := look_any hb 3 (a := some (2, _)) rfl ok _ true rfl
theorem look_10 (ok : Bool) : (Instr.lookup 66 (.map (some B)) (.int .i64 10) ok).run Try.prog W = .ok (if ok then .tuple #[.func (.func 43) #[] #[], .bool true] else .func (.func 43) #[] #[]) W := look_any hb 10 (a := some (3, _)) rfl ok _ true rfl
theorem look_8 (ok : Bool) : (Instr.lookup 66 (.map (some B)) (.int .i64 8) ok).run Try.prog W = .ok (if ok then .tuple #[.func (.func 44) #[] #[], .bool true] else .func (.func 44) #[] #[]) W := look_any hb 8 (a := some (4, _)) rfl ok _ true rfl
theorem look_11 (ok : Bool) : (Instr.lookup 66 (.map (some B)) (.int .i64 11) ok).run Try.prog W = .ok (if ok then .tuple #[.func (.func 45) #[] #[], .bool true] else .func (.func 45) #[] #[]) W := look_any hb 11 (a := some (5, _)) rfl ok _ true rfl
theorem look_no (K : Int) (k0 : ¬ K = 0) (k2 : ¬ K = 2) (k3 : ¬ K = 3) (k8 : ¬ K = 8) (k10 : ¬ K = 10) (k11 : ¬ K = 11) : (Instr.lookup 66 (.map (some B)) (.int .i64 K) true).run Try.prog W = .ok (.tuple #[.nilFunc, .bool false]) W := by
  have h : Instr.findNow (.int .i64) (.int .i64 K) kindsM.toList 0 = some none := by
    have e : ∀ x : Int, ¬ K = x → (K == x) = false := fun x h => by simpa using h
    simp [kindsM, Instr.findNow, Instr.sameNow, e _ k0, e _ k2, e _ k3, e _ k8, e _ k10, e _ k11]
  have hz : (zeroValue 64).run Try.prog W = .ok .nilFunc W := by kernel_rfl
  exact look_any hb K h true .nilFunc false (by simp [hz, Result.andThen])
end

end Go.Proofs.Ytecengclcaodeaa
