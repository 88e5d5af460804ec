/-
  Texts of this claim laid together: TpS, TpI.
-/
import Derived.Shelf.Abstract
import Derived.Test.YtjhpbemnklpefaaMTpK
import Derived.Test.YtjhpbemnklpefaaMTpN
namespace Go.Proofs.Ytjhpbemnklpefaa
open Go.RowKit Go.Lib Plain

set_option maxHeartbeats 8000000 in
set_option maxRecDepth 100000 in
theorem sound_any (g : Tg) (hk : OkT g.T) (w : World) (hg : g.In w) :
    Calls Try.prog 39 #[.agg #[.int .i64 (g.T.n : Int), .slice (some ⟨g.bs, g.os, none⟩) g.T.n g.ks, .slice (some ⟨g.bl, g.ol, none⟩) g.T.ls.length g.kl]] w fun e w' => e = .returned (.bool true) ∧ Below w.heap.size w w' := by
  have l24 := hk.l24
  have S1 := Lib.hid (fun i hi W hW => sound1_any g hk w.heap.size i hi W hW)
  have S2 := Lib.hid (fun i hi W hW => sound2_any g hk w.heap.size i hi W hW)
  have S3 := Lib.hid (fun i hi W hW => sound3_any g hk w.heap.size i hi W hW)
  have S4 := Lib.hid (fun i hi W hW => sound4_any g hk w.heap.size i hi W hW)
  have HG := Lib.hid hg
  clear hg hk
  go_enter Try.func39, Try.ntmps39
  have hs112 := Lib.hid (show ∀ w, (sizeOf 112).run Try.prog w = .ok 4 w from fun w => by kernel_rfl)
  obtain ⟨V0, hV0⟩ : ∃ V0, V0 = ((w.alloc (.cells #[.int .i64 (g.T.n : Int), .slice (some ⟨g.bs, g.os, none⟩) g.T.n g.ks, .slice (some ⟨g.bl, g.ol, none⟩) g.T.ls.length g.kl] 29)).alloc (.cells #[.nilFunc, .nilFunc, .nilFunc, .nilFunc] 112)) := ⟨_, rfl⟩
  have B0 := Lib.hid (show Below w.heap.size w V0 by subst hV0; exact below_alloc (below_alloc (Below.refl _ _) _) _)
  have T0 := Lib.hid (show TAt g w.heap.size V0 by subst hV0; exact (TAt.new HG.out 29).keep (below_alloc (Below.refl _ _) _))
  have N0 := Lib.hid (show Holds V0 (w.heap.size + 1) [.nilFunc, .nilFunc, .nilFunc, .nilFunc] by subst hV0; exact holds_alloc _ [.nilFunc, .nilFunc, .nilFunc, .nilFunc] 112 (by simp))
  have N1 := Lib.hid (show ∀ x, V0.frozen? ⟨w.heap.size + 1, x, none⟩ = false by subst hV0; exact fun x => frozen_new _ _ _ _ (by simp))
  have z0 : V0.heap.size = w.heap.size + 2 := by subst hV0; simp
  have H0 := Lib.hid hV0
  clear hV0
  go_upto_region 2 with ((with_reducible refine at_store 112 (.tmp 3) (.tmp 11) ?_); rw [← H0.out]; refine wpList_store_whole rfl (.tmp 3) (.tmp 11) 112 rfl (w.heap.size + 1) 0 [.func (.func 64) #[] #[.pointer (some ⟨w.heap.size, 0, none⟩)], .func (.func 66) #[] #[.pointer (some ⟨w.heap.size, 0, none⟩)], .func (.func 67) #[] #[.pointer (some ⟨w.heap.size, 0, none⟩)], .func (.func 68) #[] #[.pointer (some ⟨w.heap.size, 0, none⟩)]] rfl rfl hs112.out (fun j hj => N0.out.some j hj) (fun j _ => N1.out _) (by intro v hv; simp only [List.mem_cons, List.not_mem_nil, or_false] at hv; rcases hv with rfl | rfl | rfl | rfl <;> rfl) ?_; intro V hW)
  have HV := Lib.hid (hW.below _ _ (by omega) B0.out)
  have HT := Lib.hid (show TAt g w.heap.size V from by
    have ht := T0.out
    have hne : ∀ b o v, b ≠ w.heap.size + 1 → V0.cell? ⟨b, o, none⟩ = some v → V.cell? ⟨b, o, none⟩ = some v := fun b o v hb h => (hW.far b o hb).trans h
    have hold : ∀ b o v, w.cell? ⟨b, o, none⟩ = some v → V.cell? ⟨b, o, none⟩ = some v := fun b o v h => below_keep HV.out h
    exact ⟨hne _ _ _ (by omega) ht.c0, hne _ _ _ (by omega) ht.c1, hne _ _ _ (by omega) ht.c2, HG.out.keep HV.out⟩)
  have a0 : V.cell? ⟨w.heap.size + 1, 0, none⟩ = some (.func (.func 64) #[] #[.pointer (some ⟨w.heap.size, 0, none⟩)]) := hW.here 0 _ rfl
  have a1 : V.cell? ⟨w.heap.size + 1, 1, none⟩ = some (.func (.func 66) #[] #[.pointer (some ⟨w.heap.size, 0, none⟩)]) := hW.here 1 _ rfl
  have a2 : V.cell? ⟨w.heap.size + 1, 2, none⟩ = some (.func (.func 67) #[] #[.pointer (some ⟨w.heap.size, 0, none⟩)]) := hW.here 2 _ rfl
  have a3 : V.cell? ⟨w.heap.size + 1, 3, none⟩ = some (.func (.func 68) #[] #[.pointer (some ⟨w.heap.size, 0, none⟩)]) := hW.here 3 _ rfl
  have c2 := HT.out.c2
  clear HG H0 B0 T0 N0 N1 hW hs112
  have X0 : ∀ W, (Instr.index 112 (.agg #[.func (.func 64) #[] #[.pointer (some ⟨w.heap.size, 0, none⟩)], .func (.func 66) #[] #[.pointer (some ⟨w.heap.size, 0, none⟩)], .func (.func 67) #[] #[.pointer (some ⟨w.heap.size, 0, none⟩)], .func (.func 68) #[] #[.pointer (some ⟨w.heap.size, 0, none⟩)]]) (.int .i64 0)).run Try.prog W = .ok (.func (.func 64) #[] #[.pointer (some ⟨w.heap.size, 0, none⟩)]) W := fun W => by kernel_rfl
  have X1 : ∀ W, (Instr.index 112 (.agg #[.func (.func 64) #[] #[.pointer (some ⟨w.heap.size, 0, none⟩)], .func (.func 66) #[] #[.pointer (some ⟨w.heap.size, 0, none⟩)], .func (.func 67) #[] #[.pointer (some ⟨w.heap.size, 0, none⟩)], .func (.func 68) #[] #[.pointer (some ⟨w.heap.size, 0, none⟩)]]) (.int .i64 1)).run Try.prog W = .ok (.func (.func 66) #[] #[.pointer (some ⟨w.heap.size, 0, none⟩)]) W := fun W => by kernel_rfl
  have X2 : ∀ W, (Instr.index 112 (.agg #[.func (.func 64) #[] #[.pointer (some ⟨w.heap.size, 0, none⟩)], .func (.func 66) #[] #[.pointer (some ⟨w.heap.size, 0, none⟩)], .func (.func 67) #[] #[.pointer (some ⟨w.heap.size, 0, none⟩)], .func (.func 68) #[] #[.pointer (some ⟨w.heap.size, 0, none⟩)]]) (.int .i64 2)).run Try.prog W = .ok (.func (.func 67) #[] #[.pointer (some ⟨w.heap.size, 0, none⟩)]) W := fun W => by kernel_rfl
  have X3 : ∀ W, (Instr.index 112 (.agg #[.func (.func 64) #[] #[.pointer (some ⟨w.heap.size, 0, none⟩)], .func (.func 66) #[] #[.pointer (some ⟨w.heap.size, 0, none⟩)], .func (.func 67) #[] #[.pointer (some ⟨w.heap.size, 0, none⟩)], .func (.func 68) #[] #[.pointer (some ⟨w.heap.size, 0, none⟩)]]) (.int .i64 3)).run Try.prog W = .ok (.func (.func 68) #[] #[.pointer (some ⟨w.heap.size, 0, none⟩)]) W := fun W => by kernel_rfl
  go_wp2
  go_loopw [15] (fun p wr => ∃ i : Nat, p = .int .i64 (i : Int) ∧ i ≤ g.T.ls.length ∧ Hid (Below V.heap.size V wr)) (fun p _ => g.T.ls.length - (RowKit.intOf p).toNat)
  case atStart => exact ⟨0, rfl, by omega, Lib.hid (Below.refl _ _)⟩
  case round =>
    obtain ⟨i, rfl, hi, GB⟩ := hrel
    by_cases hlt : i < g.T.ls.length
    · have hlt1 : (i : Int) < (g.T.ls.length : Int) := by omega
      have b0 := below_keep GB.out a0; have b1 := below_keep GB.out a1; have b2 := below_keep GB.out a2; have b3 := below_keep GB.out a3
      clear a0 a1 a2 a3 c2
      go_wp2
      go_loopw [19] (fun p wx => ∃ j : Nat, p = .int .i64 (j : Int) ∧ j ≤ 4 ∧ Hid (Below V.heap.size V wx)) (fun p _ => 4 - (RowKit.intOf p).toNat)
      case atStart => exact ⟨0, rfl, by omega, GB⟩
      case round =>
        clear GB b0 b1 b2 b3
        obtain ⟨j, rfl, hj, GX⟩ := hrel
        rename_i wx _
        have HX := Lib.hid (HT.out.keep GX.out)
        have T1 := Lib.hid (S1.out i hlt _ HX.out)
        have T2 := Lib.hid (S2.out i hlt _ HX.out)
        have T3 := Lib.hid (S3.out i hlt _ HX.out)
        have T4 := Lib.hid (S4.out i hlt _ HX.out)
        clear HX
        rcases (show j = 0 ∨ j = 1 ∨ j = 2 ∨ j = 3 ∨ j = 4 by omega) with rfl | rfl | rfl | rfl | rfl
        · go_wp2_with fail
          refine T1.out.mono ?_
          rintro e W' ⟨rfl, hb⟩
          have G2 := Lib.hid (below_step GX.out hb)
          clear hb
          go_wp2
          go_roundw
          case rel => exact ⟨1, rfl, by omega, G2⟩
          case measure => simp [RowKit.intOf]
        · go_wp2_with fail
          refine T2.out.mono ?_
          rintro e W' ⟨rfl, hb⟩
          have G2 := Lib.hid (below_step GX.out hb)
          clear hb
          go_wp2
          go_roundw
          case rel => exact ⟨2, rfl, by omega, G2⟩
          case measure => simp [RowKit.intOf]
        · go_wp2_with fail
          refine T3.out.mono ?_
          rintro e W' ⟨rfl, hb⟩
          have G2 := Lib.hid (below_step GX.out hb)
          clear hb
          go_wp2
          go_roundw
          case rel => exact ⟨3, rfl, by omega, G2⟩
          case measure => simp [RowKit.intOf]
        · go_wp2_with fail
          refine T4.out.mono ?_
          rintro e W' ⟨rfl, hb⟩
          have G2 := Lib.hid (below_step GX.out hb)
          clear hb
          go_wp2
          go_roundw
          case rel => exact ⟨4, rfl, by omega, G2⟩
          case measure => simp [RowKit.intOf]
        · clear T1 T2 T3 T4
          go_wp2
          go_roundw
          case rel => exact ⟨i + 1, by rw [Int.natCast_add]; rfl, by omega, GX⟩
          case measure =>
            simp [RowKit.intOf]
            omega
    · have hlt1 : ¬ (i : Int) < (g.T.ls.length : Int) := by omega
      have HB := Lib.hid (below_step HV.out GB.out)
      go_wp2
      go_ret
      exact ⟨rfl, HB.out⟩

end Go.Proofs.Ytjhpbemnklpefaa

namespace Go.Proofs.Ytjhpbemnklpefaa
open Go.RowKit Go.Lib Plain

set_option maxHeartbeats 4000000 in
set_option maxRecDepth 100000 in
theorem indexB_any (b o n k : Nat) (hn : n ≤ 100) (w : World) (hc : ∀ j, j < n → w.cell? ⟨b, o + j, none⟩ = some (.bool true)) :
    Calls Try.prog 69 #[.slice (some ⟨b, o, none⟩) n k, .bool false] w fun e w' => e = .returned (.int .i64 (-1)) ∧ w' = w := by
  have HC := Lib.hid hc
  clear hc
  go_enter Try.func69, Try.ntmps69
  go_wp2
  go_loopw [8] (fun p wr => ∃ i : Nat, p = .int .i64 (i : Int) ∧ i ≤ n ∧ wr = w) (fun p _ => n - (RowKit.intOf p).toNat)
  case atStart => exact ⟨0, rfl, by omega, rfl⟩
  case round =>
    obtain ⟨i, rfl, hi, rfl⟩ := hrel
    by_cases hlt : i < n
    · have c1 : (i : Int) < (n : Int) := by omega
      have k0 := HC.out i hlt
      go_wp2
      go_roundw
      case rel => exact ⟨i + 1, by rw [Int.natCast_add]; rfl, by omega, trivial⟩
      case measure =>
        simp [RowKit.intOf]
        omega
    · have c1 : ¬ (i : Int) < (n : Int) := by omega
      go_wp2
      go_ret
      exact ⟨rfl, rfl⟩

set_option maxHeartbeats 4000000 in
set_option maxRecDepth 100000 in
theorem containsB_any (b o n k : Nat) (hn : n ≤ 100) (w : World) (hc : ∀ j, j < n → w.cell? ⟨b, o + j, none⟩ = some (.bool true)) :
    Calls Try.prog 40 #[.slice (some ⟨b, o, none⟩) n k, .bool false] w fun e w' => e = .returned (.bool false) ∧ w' = w := by
  have HC := Lib.hid (indexB_any b o n k hn w hc)
  clear hc
  go_enter Try.func40, Try.ntmps40
  go_wp2_with (go_at_call 69; refine HC.out.mono ?_; rintro e W' ⟨rfl, rfl⟩)
  go_ret
  exact ⟨rfl, rfl⟩

set_option maxHeartbeats 4000000 in
set_option maxRecDepth 100000 in
theorem indexI_any (b o n k : Nat) (hn : n ≤ 100) (f : Nat → Nat) (x : Nat) (w : World) (hc : ∀ j, j < n → w.cell? ⟨b, o + j, none⟩ = some (.int .i64 (f j : Int))) (hx : ∀ j, j < n → f j ≠ x) :
    Calls Try.prog 97 #[.slice (some ⟨b, o, none⟩) n k, .int .i64 (x : Int)] w fun e w' => e = .returned (.int .i64 (-1)) ∧ w' = w := by
  have HC := Lib.hid hc
  have HX := Lib.hid hx
  clear hc hx
  go_enter Try.func97, Try.ntmps97
  go_wp2
  go_loopw [8] (fun p wr => ∃ i : Nat, p = .int .i64 (i : Int) ∧ i ≤ n ∧ wr = w) (fun p _ => n - (RowKit.intOf p).toNat)
  case atStart => exact ⟨0, rfl, by omega, rfl⟩
  case round =>
    obtain ⟨i, rfl, hi, rfl⟩ := hrel
    by_cases hlt : i < n
    · have c1 : (i : Int) < (n : Int) := by omega
      have k0 := HC.out i hlt
      have h0 := HX.out i hlt
      have h1 : ¬ (x : Int) = (f i : Int) := by omega
      go_wp2
      go_roundw
      case rel => exact ⟨i + 1, by rw [Int.natCast_add]; rfl, by omega, trivial⟩
      case measure =>
        simp [RowKit.intOf]
        omega
    · have c1 : ¬ (i : Int) < (n : Int) := by omega
      go_wp2
      go_ret
      exact ⟨rfl, rfl⟩

set_option maxHeartbeats 4000000 in
set_option maxRecDepth 100000 in
theorem containsI_any (b o n k : Nat) (hn : n ≤ 100) (f : Nat → Nat) (x : Nat) (w : World) (hc : ∀ j, j < n → w.cell? ⟨b, o + j, none⟩ = some (.int .i64 (f j : Int))) (hx : ∀ j, j < n → f j ≠ x) :
    Calls Try.prog 91 #[.slice (some ⟨b, o, none⟩) n k, .int .i64 (x : Int)] w fun e w' => e = .returned (.bool false) ∧ w' = w := by
  have HC := Lib.hid (indexI_any b o n k hn f x w hc hx)
  clear hc hx
  go_enter Try.func91, Try.ntmps91
  go_wp2_with (go_at_call 97; refine HC.out.mono ?_; rintro e W' ⟨rfl, rfl⟩)
  go_ret
  exact ⟨rfl, rfl⟩

end Go.Proofs.Ytjhpbemnklpefaa
