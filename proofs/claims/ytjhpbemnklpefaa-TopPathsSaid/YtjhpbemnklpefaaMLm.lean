/-
  Texts of this claim laid together: TpAl, TpAm.
-/
import Derived.Shelf.Small.Bits
import Derived.Sort.Walk7a
import Derived.Sort.WalkA14
import Derived.Laws.Bits64b
import Derived.Test.YtjhpbemnklpefaaMTpAk
namespace Go.Proofs.Ytjhpbemnklpefaa
open Go.RowKit Go.Lib Plain Go.Shelf Go.Sort

def laysLen_ren : Go.Shelf.Ren := ⟨fun | 125 => 62 | 128 => 89 | 129 => 90 | n => n, fun | 46 => 110 | 3 => 3 | 51 => 132 | 53 => 134 | 4 => 4 | 5 => 5 | 9 => 9 | n => n, fun | n => n⟩
theorem laysLen : Go.Proofs.Lays.n125 Try.prog laysLen_ren := {
  mixed := by kernel_rfl
  f125 := Try.func62.trans (congrArg some (by kernel_rfl))
  f128 := Try.func89.trans (congrArg some (by kernel_rfl))
  f129 := Try.func90.trans (congrArg some (by kernel_rfl))
  t3 := Try.underlying3
  a3 := Try.isAgg3
  z3 := Try.sizeOf3
  v3 := Try.zeroValue3
  t4 := Try.underlying4
  a4 := Try.isAgg4
  z4 := Try.sizeOf4
  v4 := Try.zeroValue4
  t5 := Try.underlying5
  a5 := Try.isAgg5
  z5 := Try.sizeOf5
  v5 := Try.zeroValue5
  t9 := Try.underlying9
  a9 := Try.isAgg9
  z9 := Try.sizeOf9
  v9 := Try.zeroValue9
  t46 := Try.underlying110
  a46 := Try.isAgg110
  z46 := Try.sizeOf110
  v46 := Try.zeroValue110
  t51 := Try.underlying132
  a51 := Try.isAgg132
  z51 := Try.sizeOf132
  v51 := Try.zeroValue132
  t53 := Try.underlying134
  a53 := Try.isAgg134
  z53 := Try.sizeOf134
  v53 := Try.zeroValue134 }

theorem len_any (n : Nat) (hn : n < 4611686018427387904) (w : World) : Calls Try.prog 62 #[.int .u64 (n : Int)] w fun e w' => e = .returned (.int .i64 (bitsLen n : Nat)) ∧ w' = w := by
  have h := Any.bits_Len laysLen (n : Int) w (by omega) (by omega)
  rw [Int.toNat_natCast, bitLen_eq _ (by omega)] at h
  exact h
theorem pow_len (n : Nat) (hn : 1 ≤ n) : n < 2 ^ bitsLen n ∧ 2 ^ bitsLen n ≤ 2 * n := by
  refine ⟨(bitsLen_le_iff n _).1 (Nat.le_refl _), ?_⟩
  rcases h : bitsLen n with _ | k
  · omega
  · have : ¬ n < 2 ^ k := fun h2 => by
      have := (bitsLen_le_iff n k).2 h2
      omega
    rw [Nat.pow_succ]
    omega
/-- What 'bits.Len(uint(length))' is asked for: a power of two above the length. -/
theorem pow_any (n : Nat) (h1 : 1 ≤ n) (hn : n < 4611686018427387904) (w : World) : Calls Try.prog 93 #[.int .i64 (n : Int)] w fun e w' => ∃ M : Nat, e = .returned (.int .u64 (M : Int)) ∧ n < M ∧ M ≤ 2 * n ∧ (∃ k, M = 2 ^ k) ∧ w' = w := by
  have hL := len_any n hn
  obtain ⟨h2, h3⟩ := pow_len n h1
  have hk : bitsLen n ≤ 62 := (bitsLen_le_iff n 62).2 (by omega)
  have hp := wrap_two_pow (bitsLen n) hk
  obtain ⟨M, hM⟩ : ∃ M, M = 1 <<< bitsLen n := ⟨_, rfl⟩
  rw [← hM] at hp
  rw [Nat.one_shiftLeft] at hM
  have wr : IntKind.u64.wrap (n : Int) = n := by simp [IntKind.wrap, IntKind.bits, IntKind.signed]; omega
  go_enter Try.func93, Try.ntmps93
  go_wp2_with fail
  refine (hL _).mono ?_
  rintro e w' ⟨rfl, rfl⟩
  go_wp2
  go_ret
  exact ⟨M, by rw [hM, Int.natCast_pow]; rfl, by rw [hM]; exact h2, by rw [hM]; exact h3, ⟨_, hM⟩, rfl⟩

set_option maxHeartbeats 2000000 in
set_option maxRecDepth 1000000 in
theorem next_any (rb X : Nat) (hX : X < 18446744073709551616) (w : World) (hc : w.cell? ⟨rb, 0, none⟩ = some (.int .u64 X)) (hf : w.frozen? ⟨rb, 0, none⟩ = false) :
    Calls Try.prog 94 #[.pointer (some ⟨rb, 0, none⟩)] w fun e w' => ∃ Y : Nat, Y < 18446744073709551616 ∧ e = .returned (.int .u64 (Y : Int)) ∧ w' = (w.setCell ⟨rb, 0, none⟩ (.int .u64 (Y : Int))).drewN 3 := by
  obtain ⟨A, e1, lA⟩ : ∃ A : Nat, bits .xor .u64 (X : Int) (IntKind.u64.wrap ((X : Int) * 8192)) = (A : Int) ∧ A < 18446744073709551616 := by
    refine ⟨X ^^^ (X * 8192 % 18446744073709551616), ?_, Nat.xor_lt_two_pow (n := 64) (by omega) (by omega)⟩
    rw [IntKind.wrap_u64, show ((X : Int) * 8192 % 18446744073709551616) = ((X * 8192 % 18446744073709551616 : Nat) : Int) by omega, bits_xor_u64_nat _ _ hX (by omega)]
  obtain ⟨B, e2, lB⟩ : ∃ B : Nat, bits .xor .u64 (A : Int) ((A : Int) / 128) = (B : Int) ∧ B < 18446744073709551616 := by
    refine ⟨A ^^^ (A / 128), ?_, Nat.xor_lt_two_pow (n := 64) (by omega) (by omega)⟩
    rw [show ((A : Int) / 128) = ((A / 128 : Nat) : Int) by omega, bits_xor_u64_nat _ _ lA (by omega)]
  obtain ⟨C, e3, lC⟩ : ∃ C : Nat, bits .xor .u64 (B : Int) (IntKind.u64.wrap ((B : Int) * 131072)) = (C : Int) ∧ C < 18446744073709551616 := by
    refine ⟨B ^^^ (B * 131072 % 18446744073709551616), ?_, Nat.xor_lt_two_pow (n := 64) (by omega) (by omega)⟩
    rw [IntKind.wrap_u64, show ((B : Int) * 131072 % 18446744073709551616) = ((B * 131072 % 18446744073709551616 : Nat) : Int) by omega, bits_xor_u64_nat _ _ lB (by omega)]
  have hss : ∀ v v', (w.setCell ⟨rb, 0, none⟩ v).setCell ⟨rb, 0, none⟩ v' = w.setCell ⟨rb, 0, none⟩ v' := setCell_setCell w rb 0
  have mixed : Try.prog.follows .mixedOrders = true := by kernel_rfl
  go_enter Try.func94, Try.ntmps94
  go_wp2
  go_region_o
  all_goals go_wp2
  all_goals go_region_o
  all_goals go_wp2
  all_goals go_region_o
  all_goals go_wp2
  go_ret
  exact ⟨C, lC, rfl, rfl⟩

end Go.Proofs.Ytjhpbemnklpefaa

namespace Go.Proofs.Ytjhpbemnklpefaa
open Go.RowKit Go.Lib Plain

/-- The row in whatever order, and the cell of the pseudorandom sequence. -/
def SU (g : Tg) (w : World) (q n : Nat) (f : Nat → Rt) (rb : Nat) (W : World) : Prop :=
  ∃ f', Same n f f' ∧ SR g w q n f' W ∧ (∀ i, i < n → (f' i).xs ≠ [] → (f' i).b ≠ rb) ∧ (∃ X : Nat, X < 18446744073709551616 ∧ W.cell? ⟨rb, 0, none⟩ = some (.int .u64 (X : Int))) ∧ W.frozen? ⟨rb, 0, none⟩ = false ∧ rb ≠ q ∧ w.heap.size ≤ rb
section
variable {g : Tg} {w : World} {q n : Nat} {f : Nat → Rt} {rb : Nat} {W W' : World}
theorem SU.ss (h : SU g w q n f rb W) : SS g w q n f W := by
  obtain ⟨f', h1, h2, _⟩ := h
  exact ⟨f', h1, h2⟩
theorem SU.start (h : SS g w q n f W) (l : Nat) (hl : l < 18446744073709551616) : SU g w q n f W.heap.size (W.alloc (.cells #[.int .u64 (l : Int)] 136)) := by
  obtain ⟨f', h1, h2⟩ := h
  refine ⟨f', h1, h2.keep (below_alloc (Below.refl _ _) _), fun i hi hx => ?_, ⟨l, hl, by simp [go_sem]⟩, by simp [go_sem], Ne.symm (Nat.ne_of_lt h2.lt), h2.b.size⟩
  have h1 := (h2.r i hi).1 0 (List.length_pos_iff.2 hx)
  have := World.block_lt_of_cell? _ _ h1
  change (f' i).b < _ at this
  omega
theorem SU.set (h : SU g w q n f rb W) (Y : Nat) (hY : Y < 18446744073709551616) (m : Nat) : SU g w q n f rb ((W.setCell ⟨rb, 0, none⟩ (.int .u64 (Y : Int))).drewN m) := by
  obtain ⟨f', h1, h2, h3, ⟨X, hX, h4⟩, h5, h6, h7⟩ := h
  refine ⟨f', h1, (show SR g w q n f' (W.setCell ⟨rb, 0, none⟩ (.int .u64 (Y : Int))) from ⟨fun i hi => ?_, fun x => by rw [World.frozen?_setCell]; exact h2.z x, fun i hi => ⟨fun x hx => ?_, (h2.r i hi).2⟩, h2.b.setCell (p := ⟨rb, 0, none⟩) h7 _, by simpa [World.setCell] using h2.lt, h2.h⟩).keep (below_drewN' (Below.refl _ _) m), h3, ⟨Y, hY, ?_⟩, ?_, h6, h7⟩
  · rw [World.cell?_setCell_far _ _ _ _ h6]
    exact h2.c i hi
  · rw [World.cell?_setCell_far _ _ _ _ (Ne.symm (h3 i hi (fun e => by rw [e] at hx; simp at hx)))]
    exact (h2.r i hi).1 x hx
  · rw [World.cell?_drewN]
    exact World.cell?_setCell_same _ _ _ h4
  · rw [World.frozen?_drewN, World.frozen?_setCell]
    exact h5
theorem SU.next (h : SU g w q n f rb W) : Calls Try.prog 94 #[.pointer (some ⟨rb, 0, none⟩)] W fun e w' => ∃ Y : Nat, Y < 18446744073709551616 ∧ e = .returned (.int .u64 (Y : Int)) ∧ SU g w q n f rb w' := by
  have hh := h
  obtain ⟨f', h1, h2, h3, ⟨X, hX, h4⟩, h5, h6, h7⟩ := h
  refine (next_any rb X hX W h4 h5).mono ?_
  rintro e w' ⟨Y, hY, he, rfl⟩
  exact ⟨Y, hY, he, hh.set Y hY 3⟩
theorem SU.exch (h : SU g w q n f rb W) {P J : Nat} (hP : P < n) (hJ : J < n) :
    ∃ (b1 o1 l1 k1 b2 o2 l2 k2 : Nat) (u : Value), W.cell? ⟨q, P, none⟩ = some (.slice (some ⟨b1, o1, none⟩) l1 k1) ∧ W.cell? ⟨q, J, none⟩ = some (.slice (some ⟨b2, o2, none⟩) l2 k2) ∧
      W.frozen? ⟨q, P, none⟩ = false ∧ W.frozen? ⟨q, J, none⟩ = false ∧ (W.setCell ⟨q, P, none⟩ (.slice (some ⟨b2, o2, none⟩) l2 k2)).cell? ⟨q, J, none⟩ = some u ∧
      Hid (SU g w q n f rb ((W.setCell ⟨q, P, none⟩ (.slice (some ⟨b2, o2, none⟩) l2 k2)).setCell ⟨q, J, none⟩ (.slice (some ⟨b1, o1, none⟩) l1 k1)).drew) := by
  obtain ⟨f', h1, h2, h3, ⟨X, hX, h4⟩, h5, h6, h7⟩ := h
  obtain ⟨u, hu⟩ := h2.c2 hJ hP (f' J).v
  refine ⟨_, _, _, _, _, _, _, _, u, h2.c P hP, h2.c J hJ, h2.z P, h2.z J, hu, Lib.hid ⟨_, h1.trans (Same.sw f' hP hJ), h2.sw hP hJ, fun i hi hx => ?_, ⟨X, hX, ?_⟩, ?_, h6, h7⟩⟩
  · obtain ⟨m, hm, e⟩ := (Same.sw f' hP hJ).1 i hi
    rw [e] at hx ⊢
    exact h3 m hm hx
  · show ((W.setCell _ _).setCell _ _).cell? _ = _
    rw [World.cell?_setCell_far _ _ _ _ (Ne.symm h6), World.cell?_setCell_far _ _ _ _ (Ne.symm h6)]
    exact h4
  · show ((W.setCell _ _).setCell _ _).frozen? _ = _
    rw [World.frozen?_setCell, World.frozen?_setCell]
    exact h5
end
theorem bp_facts {n a b : Nat} (hn : n ≤ 110075314176) (hab : a + 12 < b) (hb : b ≤ n) : ∃ l d D A I A1 : Nat,
    ((b : Int) - (a : Int) = (l : Int) ∧ Int.tdiv (l : Int) 4 = (d : Int) ∧ (d : Int) * 2 = (D : Int) ∧ (a : Int) + (D : Int) = (A : Int) ∧ (A : Int) - 1 = (I : Int) ∧ (A : Int) + 1 = (A1 : Int) ∧ (l : Int) / 4 = (d : Int)) ∧
    (Sm l ∧ Sm d ∧ Sm D ∧ Sm A ∧ Sm I ∧ Sm A1) ∧ (13 ≤ l ∧ a + l = b ∧ I ≤ A1 + 1 ∧ A1 < n ∧ l < 4611686018427387904) := by
  refine ⟨b - a, (b - a) / 4, (b - a) / 4 * 2, a + (b - a) / 4 * 2, a + (b - a) / 4 * 2 - 1, a + (b - a) / 4 * 2 + 1, ⟨by omega, ?_, by omega, by omega, by omega, by omega, by omega⟩, ⟨sm hn (by omega), sm hn (by omega), sm hn (by omega), sm hn (by omega), sm hn (by omega), sm hn (by omega)⟩, by omega, by omega, by omega, by omega, by omega⟩
  rw [Int.tdiv_eq_ediv_of_nonneg (by omega)]
  omega
theorem and_facts {Y M k l n : Nat} (hY : Y < 18446744073709551616) (hM : M = 2 ^ k) (hl : M ≤ 2 * l) (hln : l ≤ n) (hn : n ≤ 110075314176) : ∃ o : Nat, bits .and .u64 (Y : Int) ((M - 1 : Nat) : Int) = (o : Int) ∧ o < M ∧ Sm o := by
  have h0 : 0 < M := by rw [hM]; exact Nat.two_pow_pos k
  refine ⟨Y &&& (M - 1), bits_and_u64_nat Y (M - 1) hY (by omega), ?_, ?_⟩
  · rw [hM, Nat.and_two_pow_sub_one_eq_mod, ← hM]
    exact Nat.mod_lt _ h0
  · have : Y &&& (M - 1) < M := by
      rw [hM, Nat.and_two_pow_sub_one_eq_mod, ← hM]
      exact Nat.mod_lt _ h0
    exact sm hn (by omega)
theorem pow_sub {M : Nat} (h : 0 < M) (h2 : M ≤ 1000000000000) : IntKind.u64.wrap ((M : Int) - 1) = ((M - 1 : Nat) : Int) := by
  rw [IntKind.wrap_u64]
  omega
theorem oth_facts {n a l o M : Nat} (hn : n ≤ 110075314176) (hal : a + l ≤ n) (ho : o < M) (hM : M ≤ 2 * l) : (l ≤ o → ∃ o2 J : Nat, (o : Int) - (l : Int) = (o2 : Int) ∧ (a : Int) + (o2 : Int) = (J : Int) ∧ Sm o2 ∧ Sm J ∧ J < n ∧ (J : Int) < (n : Int)) ∧
    (¬ l ≤ o → ∃ J : Nat, (a : Int) + (o : Int) = (J : Int) ∧ Sm J ∧ J < n ∧ (J : Int) < (n : Int)) :=
  ⟨fun h => ⟨o - l, a + (o - l), by omega, by omega, sm hn (by omega), sm hn (by omega), by omega, by omega⟩, fun h => ⟨a + o, by omega, sm hn (by omega), by omega, by omega⟩⟩
theorem measB {A1 t : Nat} (h : t ≤ A1) : A1 + 1 - (RowKit.intOf (.int .i64 ((t + 1 : Nat) : Int))).toNat < A1 + 1 - (RowKit.intOf (.int .i64 (t : Int))).toNat := by
  simp only [RowKit.intOf, Int.toNat_natCast]
  omega
theorem wrapU {l n : Nat} (hn : n ≤ 110075314176) (h : l ≤ n) : IntKind.u64.wrap (l : Int) = (l : Int) := by
  rw [IntKind.wrap_u64]
  omega

set_option maxHeartbeats 16000000 in
set_option maxRecDepth 100000 in
theorem breakPatterns_any (g : Tg) (w : World) (S : Value) (hx : SX g w S) (q n cap : Nat) (hn : n ≤ 110075314176) (f : Nat → Rt) (W : World) (hS : SS g w q n f W) (a b : Nat) (hab : a + 12 < b) (hb : b ≤ n) :
    Calls Try.prog 83 #[.slice (some ⟨q, 0, none⟩) n cap, .int .i64 (a : Int), .int .i64 (b : Int), .func (.func 16) #[S] #[]] W (SP g w q n f) := by
  have HK := Lib.hid hx
  have S0 := Lib.hid hS
  have wA := smA
  have mixed : Try.prog.follows .mixedOrders = true := by kernel_rfl
  clear hS hx
  obtain ⟨l, d, D, A, I, A1, ⟨el, ed, eD, eA, eI, eA1, eq⟩, ⟨sl, sd, sD, sA, sI, sA1⟩, h13, hal, hIA, hA1, hl⟩ := bp_facts hn hab hb
  have F := Lib.hid (And.intro el (And.intro (smA l sl) (And.intro ed (And.intro (smA d sd) (And.intro eD (And.intro (smA D sD) (And.intro eA (And.intro (smA A sA) (And.intro eI (And.intro (smA I sI) (And.intro eA1 (And.intro (smA A1 sA1) eq))))))))))))
  have HN := Lib.hid (And.intro hn (And.intro (show a + l ≤ n by omega) (And.intro hA1 (show l ≤ n by omega))))
  have HI := Lib.hid hIA
  have hwu := Lib.hid (wrapU HN.out.1 HN.out.2.2.2)
  have HP := Lib.hid (pow_any l (by omega) hl)
  have S1 := Lib.hid (SU.start S0.out l (by omega))
  have h8 : (l : Int) ≥ 8 := by omega
  clear hn hab hb el ed eD eA eI eA1 eq sl sd sD sA sI sA1 h13 hal hIA hA1 hl
  go_enter Try.func83, Try.ntmps83
  go_upto_region 1 with fail
  simp only [F.out.1, F.out.2.1]
  have wul := hwu.out
  go_wp2_with fail
  refine (HP.out _).mono ?_
  rintro e W1 ⟨M, rfl, hlM, hMl, ⟨kM, hkM⟩, rfl⟩
  have HM := Lib.hid (And.intro hlM (And.intro hMl hkM))
  have HM1 := Lib.hid (pow_sub (show 0 < M by omega) (show M ≤ 1000000000000 by have := HN.out; omega))
  clear S0 hlM hMl hkM
  generalize W.alloc (.cells #[.int .u64 (l : Int)] 136) = W1 at S1 ⊢
  generalize W.heap.size = rb at S1 ⊢
  go_wp2
  simp only [F.out.1, F.out.2.1, F.out.2.2.1, F.out.2.2.2.1, F.out.2.2.2.2.1, F.out.2.2.2.2.2.1, F.out.2.2.2.2.2.2.1, F.out.2.2.2.2.2.2.2.1, F.out.2.2.2.2.2.2.2.2.1, F.out.2.2.2.2.2.2.2.2.2.1, F.out.2.2.2.2.2.2.2.2.2.2.1, F.out.2.2.2.2.2.2.2.2.2.2.2.1, F.out.2.2.2.2.2.2.2.2.2.2.2.2]
  go_loopw [11] (fun p wr => ∃ t : Nat, p = .int .i64 (t : Int) ∧ t ≤ A1 + 1 ∧ Hid (SU g w q n f rb wr)) (fun p _ => A1 + 1 - (RowKit.intOf p).toNat)
  case atStart => exact ⟨I, rfl, HI.out, S1⟩
  case round =>
    clear S1
    obtain ⟨t, rfl, ht, S2⟩ := hrel
    go_upto_if 35 with fail
    simp only [F.out.1, F.out.2.1, F.out.2.2.1, F.out.2.2.2.1, F.out.2.2.2.2.1, F.out.2.2.2.2.2.1, F.out.2.2.2.2.2.2.1, F.out.2.2.2.2.2.2.2.1, F.out.2.2.2.2.2.2.2.2.1, F.out.2.2.2.2.2.2.2.2.2.1, F.out.2.2.2.2.2.2.2.2.2.2.1, F.out.2.2.2.2.2.2.2.2.2.2.2.1, F.out.2.2.2.2.2.2.2.2.2.2.2.2]
    by_cases htA : t ≤ A1
    · have hz : (t : Int) ≤ (A1 : Int) := Int.ofNat_le.2 htA
      have HT := Lib.hid (And.intro htA ht)
      clear htA ht
      go_wp2_with fail
      refine S2.out.next.mono ?_
      rintro e W3 ⟨Y, hY, rfl, S3⟩
      have S3 := Lib.hid S3
      clear S2
      obtain ⟨o, eo, hoM, so⟩ := and_facts hY HM.out.2.2 HM.out.2.1 HN.out.2.2.2 HN.out.1
      have HO := Lib.hid hoM
      clear hoM hY
      have hm1 := HM1.out
      go_upto_if 45 with fail
      simp only [hm1, eo, wA _ so]
      clear hm1
      by_cases hol : l ≤ o
      · have hz2 : (o : Int) ≥ (l : Int) := Int.ofNat_le.2 hol
        obtain ⟨o2, J, e2, eJ, so2, sJ, hJ, bJ⟩ := (oth_facts HN.out.1 HN.out.2.1 HO.out HM.out.2.1).1 hol
        have HJ := Lib.hid hJ
        clear hJ hol
        go_upto_region 10 with fail
        simp only [e2, wA _ so2]
        have bt : (t : Int) < (n : Int) := lt_int (Nat.lt_of_le_of_lt HT.out.1 HN.out.2.2.1)
        obtain ⟨b1, o1, l1, k1, b2, o2, l2, k2, u, ca, cb, fa, fb, cc, S4⟩ := S3.out.exch (Nat.lt_of_le_of_lt HT.out.1 HN.out.2.2.1) HJ.out
        clear S3
        go_upto_region 10 with fail
        go_big_region_o
        clear ca cb cc fa fb
        generalize World.drew _ = W4 at S4 ⊢
        have w1 := smC t (sml HN.out.1 (Nat.le_of_lt (Nat.lt_of_le_of_lt HT.out.1 HN.out.2.2.1)))
        go_wp2
        go_roundw
        case rel => exact ⟨t + 1, by first | rw [w1] | rfl, Nat.succ_le_succ HT.out.1, S4⟩
        case measure => (first | (rw [w1]; exact measB HT.out.1) | exact measB HT.out.1)
      · have hz2 : ¬ (o : Int) ≥ (l : Int) := fun h => hol (Int.ofNat_le.1 h)
        obtain ⟨J, eJ, sJ, hJ, bJ⟩ := (oth_facts HN.out.1 HN.out.2.1 HO.out HM.out.2.1).2 hol
        have HJ := Lib.hid hJ
        clear hJ hol
        have bt : (t : Int) < (n : Int) := lt_int (Nat.lt_of_le_of_lt HT.out.1 HN.out.2.2.1)
        obtain ⟨b1, o1, l1, k1, b2, o2, l2, k2, u, ca, cb, fa, fb, cc, S4⟩ := S3.out.exch (Nat.lt_of_le_of_lt HT.out.1 HN.out.2.2.1) HJ.out
        clear S3
        go_upto_region 10 with fail
        go_big_region_o
        clear ca cb cc fa fb
        generalize World.drew _ = W4 at S4 ⊢
        have w1 := smC t (sml HN.out.1 (Nat.le_of_lt (Nat.lt_of_le_of_lt HT.out.1 HN.out.2.2.1)))
        go_wp2
        go_roundw
        case rel => exact ⟨t + 1, by first | rw [w1] | rfl, Nat.succ_le_succ HT.out.1, S4⟩
        case measure => (first | (rw [w1]; exact measB HT.out.1) | exact measB HT.out.1)
    · have hz : ¬ (t : Int) ≤ (A1 : Int) := fun h => htA (Int.ofNat_le.1 h)
      go_wp2
      go_end0
      exact ⟨rfl, S2.out.ss⟩


end Go.Proofs.Ytjhpbemnklpefaa
