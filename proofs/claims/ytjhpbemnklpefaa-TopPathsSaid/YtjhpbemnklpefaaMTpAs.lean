/-
  path.Pair. No conditions.
-/
import Derived.OwnWalk
import Derived.Test.YtjhpbemnklpefaaMFir
import Derived.Test.YtjhpbemnklpefaaMLst
import Derived.Test.YtjhpbemnklpefaaMBase
namespace Go.Proofs.Ytjhpbemnklpefaa
open Go.RowKit Go.Lib Plain

/-- What Pair answers. -/
def PairQ (g : Tg) (a b : Nat) (w : World) (e : Ending) (w' : World) : Prop :=
  ((∃ r s : Rt, e = .returned (.tuple #[r.v, s.v, .int .i64 0]) ∧ r.xs ∈ routesP g.T a b ∧ s.xs ∈ routesP g.T a b ∧ AP g.T r.xs s.xs ∧ r.In w' ∧ s.In w') ∨
    (e = .returned (.tuple #[.slice none 0 0, .slice none 0 0, .int .i64 4]) ∧ ∀ xs ∈ routesP g.T a b, ∀ ys ∈ routesP g.T a b, ¬ AP g.T xs ys)) ∧ Below w.heap.size w w'

set_option maxHeartbeats 16000000 in
set_option maxRecDepth 100000 in
theorem pair_any (g : Tg) (hk : OkT g.T) (a b : Nat) (ha : a < g.T.n) (hb : b < g.T.n) (hab : a ≠ b) (w : World) (hg : g.In w) :
    Calls Try.prog 7 #[.agg #[.int .i64 (g.T.n : Int), .slice (some ⟨g.bs, g.os, none⟩) g.T.n g.ks, .slice (some ⟨g.bl, g.ol, none⟩) g.T.ls.length g.kl], .int .i64 (a : Int), .int .i64 (b : Int)] w (PairQ g a b w) := by
  have HG := Lib.hid hg
  have HB := Lib.hid (fun W hW => between_any g hk a b ha hb hab W hW)
  have HK := Lib.hid (And.intro hk (And.intro ha hab))
  have hln : (Sv g).length = 99 := sFn_len g _ _
  clear hg hk ha hb hab
  go_enter Try.func7, Try.ntmps7
  go_upto_region 1 with fail
  refine wp_world ?_
  intro V hV
  have HV := Lib.hid (show Below w.heap.size w V by subst hV; exact below_alloc (Below.refl _ _) _)
  have TV := Lib.hid (show TAt g w.heap.size V by subst hV; exact TAt.new HG.out 29)
  clear hV
  have c0 := TV.out.c0; have c1 := TV.out.c1; have c2 := TV.out.c2
  go_wp2_with fail
  refine (HB.out _ TV.out.i).mono ?_
  rintro e w1 ⟨rfl, hb1⟩
  have B1 := Lib.hid (below_step HV.out hb1)
  clear hb1 HV TV HB c0 c1 c2
  go_upto_region 2 with ((with_reducible refine at_store 55 (.tmp 9) (.tmp 20) ?_); refine wpList_store_whole rfl (.tmp 9) (.tmp 20) 55 rfl w1.heap.size 0 (Sv g) rfl rfl (size55 g _ _) (fun j hj => by rw [hln] at hj; exact (holds_alloc w1 zS 55 rfl).some j (by rw [zS_len]; exact hj)) (fun j _ => frozen_new _ _ _ _ rfl) (sFn_one g _ _) ?_; intro W2 hw2; simp only [Act.put, List.setIfInBounds_toArray, List.set_cons_succ, List.set_cons_zero])
  have b2 : Below w1.heap.size w1 W2 := hw2.below _ _ (Nat.le_refl _) (below_alloc (Below.refl _ _) _)
  have B2 := Lib.hid (below_step B1.out b2)
  have S2 := Lib.hid (show SAt g w1.heap.size W2 from ⟨hw2.here, HG.out.keep B2.out⟩)
  clear hw2 b2 B1
  generalize w1.heap.size = sb at *
  go_upto_region 4 with fail
  have HSF := Lib.hid (fun W (hW : SAt g sb W) lb hs => sortedFunc_any g HK.out.1 W hW.i a b lb hs)
  have HSQ := Lib.hid (fun W bt bf bs h0 => seqRt g HK.out.1 a b HK.out.2.1 HK.out.2.2 W bt bf bs h0)
  refine wp_region_held_drew (S := fun wx => SAt g sb wx ∧ Below W2.heap.size W2 wx) (by kernel_rfl) ⟨S2.out.keep (Below.drew (Below.refl _ _)), Below.drew (Below.refl _ _)⟩ (fun h0 => ?_)
  refine wpAnyH_take (i := 0) (v := .agg (Sv g).toArray) rfl (by kernel_rfl) (by kernel_rfl) (by kernel_rfl) (fun _ _ _ h => h) (yieldsIf_load_whole rfl (.tmp 9) 55 rfl sb (Sv g) rfl agg55 (size55 g _ _) (fun _ h => h.1.h)) h0 ?_
  try simp only [Act.put, List.getElem_toArray, List.getElem_cons_succ, List.getElem_cons_zero, List.setIfInBounds_toArray, List.set_cons_succ, List.set_cons_zero]
  refine wpAnyH_take (i := 1) (v := .int .i64 (a : Int)) rfl (by kernel_rfl) (by kernel_rfl) (by kernel_rfl) (fun _ _ _ h => h) (yields_moveT rfl rfl rfl) h0 ?_
  try simp only [Act.put, List.getElem_toArray, List.getElem_cons_succ, List.getElem_cons_zero, List.setIfInBounds_toArray, List.set_cons_succ, List.set_cons_zero]
  refine wpAnyH_take (i := 2) (v := .int .i64 (b : Int)) rfl (by kernel_rfl) (by kernel_rfl) (by kernel_rfl) (fun _ _ _ h => h) (yields_moveT rfl rfl rfl) h0 ?_
  try simp only [Act.put, List.getElem_toArray, List.getElem_cons_succ, List.getElem_cons_zero, List.setIfInBounds_toArray, List.set_cons_succ, List.set_cons_zero]
  refine wpAnyH_take (i := 4) (v := .agg (Sv g).toArray) rfl (by kernel_rfl) (by kernel_rfl) (by kernel_rfl) (fun _ _ _ h => h) (yieldsIf_load_whole rfl (.tmp 9) 55 rfl sb (Sv g) rfl agg55 (size55 g _ _) (fun _ h => h.1.h)) h0 ?_
  try simp only [Act.put, List.getElem_toArray, List.getElem_cons_succ, List.getElem_cons_zero, List.setIfInBounds_toArray, List.set_cons_succ, List.set_cons_zero]
  refine wpAnyH_take (i := 5) (v := .func (.func 16) #[.agg (Sv g).toArray] #[]) rfl (by kernel_rfl) (by kernel_rfl) (by kernel_rfl) (fun _ _ _ h => h) (yields_runT rfl (fun w _ => by simp [execOp, go_sem])) h0 ?_
  try simp only [Act.put, List.getElem_toArray, List.getElem_cons_succ, List.getElem_cons_zero, List.setIfInBounds_toArray, List.set_cons_succ, List.set_cons_zero]
  refine wpAnyH_ready (rs := [3]) (by kernel_rfl) (by simp) ?_
  refine AllReadyH.cons rfl (fun K hK => ?_) AllReadyH.nil
  go_simp
  refine (routes_any g a b _).mono ?_
  rintro e w5 ⟨rfl, hw5⟩
  have B5 : Below W2.drew.heap.size W2.drew w5 := by subst hw5; exact below_alloc (below_alloc (below_alloc (Below.refl _ _) _) _) _
  have R5 : R0 g a b (W2.drew.heap.size + 1 + 1) (W2.drew.heap.size + 1) W2.drew.heap.size w5 := by
    subst hw5
    exact ⟨by simp [go_sem], by simp [go_sem], (SAt.new h0.1.i 55).keep (below_alloc (below_alloc (Below.refl _ _) _) _)⟩
  clear hw5
  refine hK.out _ _ ⟨h0.1.keep B5, below_step h0.2 B5⟩ (fun h1 => ?_)
  clear hK K
  try simp only [Act.put, List.getElem_toArray, List.getElem_cons_succ, List.getElem_cons_zero, List.setIfInBounds_toArray, List.set_cons_succ, List.set_cons_zero]
  refine wpAnyH_ready (rs := [6]) (by kernel_rfl) (by simp) ?_
  refine AllReadyH.cons rfl (fun K hK => ?_) AllReadyH.nil
  go_simp
  refine (HSF.out w5 h1.1 _ (HSQ.out w5 _ _ _ R5)).mono ?_
  rintro e w7 ⟨v, rfl, hA, hB7⟩
  refine hK.out _ _ ⟨h1.1.keep hB7, below_step h1.2 hB7⟩ (fun h2 => ?_)
  clear hK K
  try simp only [Act.put, List.getElem_toArray, List.getElem_cons_succ, List.getElem_cons_zero, List.setIfInBounds_toArray, List.set_cons_succ, List.set_cons_zero]
  refine wpAnyH_take (i := 7) (v := v) rfl (by kernel_rfl) (by kernel_rfl) (by kernel_rfl) (fun _ _ _ h => h) (yields_runT rfl (fun w _ => by simp [execOp, go_sem])) h2 ?_
  try simp only [Act.put, List.getElem_toArray, List.getElem_cons_succ, List.getElem_cons_zero, List.setIfInBounds_toArray, List.set_cons_succ, List.set_cons_zero]
  refine wpAnyH_done (by kernel_rfl) ?_ _
  have S7 := Lib.hid h2.1
  have B7 := Lib.hid (below_step B2.out h2.2)
  have A7 := Lib.hid hA
  clear h0 h1 h2 hA hB7 R5 B5 S2 B2 HSF HSQ
  rcases A7.out with ⟨rfl, hnil⟩ | ⟨q, n, cap, f, rfl, hn, hrow, hall⟩
  · have HN := Lib.hid hnil
    clear hnil A7
    go_wp2
    go_loopw [34] (fun p wr => p = .int .i64 0 ∧ wr = w7) (fun _ _ => 0)
    case atStart => exact ⟨rfl, rfl⟩
    case round =>
      obtain ⟨rfl, rfl⟩ := hrel
      go_wp2
      refine bodyPost_ret (results_tmp3 rfl _ _ _) rfl ?_
      exact ⟨.inr ⟨rfl, fun xs hx => by rw [HN.out] at hx; cases hx⟩, B7.out⟩
  · have HR := Lib.hid (And.intro hrow hall)
    have HN := Lib.hid hn
    clear hn hrow hall A7
    go_wp2
    go_loopw [34] (fun p wr => ∃ i : Nat, p = .int .i64 (i : Int) ∧ Hid (i ≤ n ∧ Below w7.heap.size w7 wr ∧ ∀ i', i' < i → ∀ j, j < n → ¬ AP g.T (f i').xs (f j).xs)) (fun p _ => n - (RowKit.intOf p).toNat)
    case atStart => exact ⟨0, rfl, Lib.hid ⟨Nat.zero_le _, Below.refl _ _, fun i' h => absurd h (Nat.not_lt_zero _)⟩⟩
    case round =>
      obtain ⟨i, rfl, HI⟩ := hrel
      by_cases hlt : i < n
      · have c1 : (i : Int) < (n : Int) := lt_int hlt
        have HL := Lib.hid hlt
        have ci := below_keep HI.out.2.1 (HR.out.1 i hlt).1
        clear hlt
        obtain ⟨r, hr⟩ : ∃ r, r = f i := ⟨_, rfl⟩
        rw [← hr] at ci
        have HF := Lib.hid hr
        clear hr
        change wr.cell? ⟨q, i, none⟩ = some (.slice (some ⟨r.b, r.o, none⟩) r.xs.length r.k) at ci
        obtain ⟨W8, hW8⟩ : ∃ W8, W8 = (wr.alloc (.cells #[.slice (some ⟨r.b, r.o, none⟩) r.xs.length r.k] 37)).alloc (.cells #[.slice (some ⟨q, 0, none⟩) n cap] 33) := ⟨_, rfl⟩
        have B8 : Below wr.heap.size wr W8 := by subst hW8; exact below_alloc (below_alloc (Below.refl _ _) _) _
        have c8 : W8.cell? ⟨wr.heap.size, 0, none⟩ = some (.slice (some ⟨r.b, r.o, none⟩) r.xs.length r.k) := by subst hW8; simp [go_sem]
        have v8 : W8.cell? ⟨wr.heap.size + 1, 0, none⟩ = some (.slice (some ⟨q, 0, none⟩) n cap) := by subst hW8; simp [go_sem]
        have B78 := below_step HI.out.2.1 B8
        have HFi := Lib.hid (first_any g HK.out.1 (wr.heap.size + 1) sb wr.heap.size q n cap HN.out f r (by rw [HF.out]; exact (routesP_pw (HR.out.1 i HL.out).2.2).costOk) (fun j hj => (routesP_pw (HR.out.1 j hj).2.2).costOk) W8 (S7.out.keep B78) c8 (by rw [HF.out]; exact (HR.out.1 i HL.out).2.1.keep B78) (fun j hj => (HR.out.1 j hj).2.1.keep B78) v8 (fun j hj => below_keep B78 (HR.out.1 j hj).1))
        have HB8 := Lib.hid B78
        have C8 := Lib.hid c8
        clear B8 c8 v8 B78
        go_wp2_with (go_at_call 18; refine (values_any q n cap _).mono ?_; rintro e w9 ⟨rfl, rfl⟩; rw [← hW8])
        rw [← hW8]
        clear hW8
        refine HFi.out.mono ?_
        rintro e W9 ⟨hcase, hb9⟩
        have B9 := Lib.hid (HB8.out.trans (hb9.mono HB8.out.size))
        have c9 := below_keep hb9 C8.out
        clear HFi hb9 ci
        rcases hcase with ⟨j, hj, hap, rfl⟩ | ⟨hno, rfl⟩
        · have HJ := Lib.hid (And.intro hj hap)
          clear hj hap
          obtain ⟨s, hs⟩ : ∃ s, s = f j := ⟨_, rfl⟩
          rw [← hs]
          have HSJ := Lib.hid hs
          clear hs
          unfold Rt.v
          go_wp2
          refine bodyPost_ret (results_tmp3 rfl _ _ _) rfl ?_
          exact ⟨.inl ⟨r, s, rfl, by rw [HF.out]; exact (HR.out.1 i HL.out).2.2, by rw [HSJ.out]; exact (HR.out.1 j HJ.out.1).2.2, by rw [HSJ.out]; exact HJ.out.2, by rw [HF.out]; exact (HR.out.1 i HL.out).2.1.keep B9.out, by rw [HSJ.out]; exact (HR.out.1 j HJ.out.1).2.1.keep B9.out⟩, below_step B7.out B9.out⟩
        · have HNO := Lib.hid hno
          have w1 := Lib.hid (smC i (sml HN.out (Nat.le_of_lt HL.out)))
          clear hno
          go_wp2
          go_roundw
          case rel => exact ⟨i + 1, by first | rw [w1.out] | rfl, Lib.hid ⟨HL.out, B9.out, fun i' hi' j hj => by
            rcases Nat.lt_succ_iff_lt_or_eq.1 hi' with h | h
            · exact HI.out.2.2 i' h j hj
            · rw [h, ← HF.out]
              exact HNO.out j hj⟩⟩
          case measure => (first | (rw [w1.out]; exact measU HL.out) | exact measU HL.out)
      · have c1 : ¬ (i : Int) < (n : Int) := fun h => hlt (Int.ofNat_lt.1 h)
        have HE := Lib.hid (Nat.le_of_not_lt hlt)
        clear hlt
        go_wp2
        refine bodyPost_ret (results_tmp3 rfl _ _ _) rfl ?_
        exact ⟨.inr ⟨rfl, fun xs hx ys hy => by
          obtain ⟨i', hi', rfl⟩ := HR.out.2 xs hx
          obtain ⟨j', hj', rfl⟩ := HR.out.2 ys hy
          exact HI.out.2.2 i' (Nat.lt_of_lt_of_le hi' HE.out) j' hj'⟩, below_step B7.out HI.out.2.1⟩

end Go.Proofs.Ytjhpbemnklpefaa
