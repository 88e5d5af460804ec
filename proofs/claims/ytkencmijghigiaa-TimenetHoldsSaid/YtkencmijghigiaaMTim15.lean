/-
  timenet.Time of a valid network.
-/
import Derived.Test.YtkencmijghigiaaMTimP15
import Derived.Test.YtkencmijghigiaaMTLst15
import Derived.Test.YtkencmijghigiaaMPass5s
namespace Go.Proofs.Ytkencmijghigiaa
open Go.RowKit Go.Lib Go.Shelf Plain

theorem set_go {O C P l : Int} (h : OkI O C P) (hl : Stamp l) (hm : Stamp (O + C)) (w : World) :
    Calls Try.prog 34 #[.agg #[.int .i64 O, .int .i64 C, .int .i64 P], .int .i64 l] w fun e w' => e = .returned (.tuple #[.agg #[.int .i64 l, .int .i64 (O + C), .int .i64 P], .int .i64 0]) ∧ Below w.heap.size w w' := by
  have h0 := set_any O C P l w
  simpa only [apV, apE, stV, stE, if_pos h, if_pos hl, if_pos hm] using h0
theorem time_go {L M P l : Int} (h : OkS L M P) (hl : Stamp l) (w : World) :
    Calls Try.prog 35 #[.agg #[.int .i64 L, .int .i64 M, .int .i64 P], .int .i64 l] w fun e w' => e = .returned (.tuple #[.int .i64 (atV L M P l), .int .i64 0]) ∧ Below w.heap.size w w' := by
  have h0 := time_any L M P l w
  rwa [show timeV L M P l = atV L M P l from if_pos ⟨h, hl⟩, show timeE L M P l = 0 by unfold timeE; rw [if_pos h, if_pos hl]] at h0

/-- What Time answers. -/
def TimCase (n : Nt) (par : Fin n.m → Fin n.m) (ls : List (Int × Int)) (i t r e : Int) : Prop :=
  (¬ (0 ≤ i ∧ i < (n.m : Int)) ∧ r = 0 ∧ e = 2) ∨ ((0 ≤ i ∧ i < (n.m : Int)) ∧ 256 < ls.length ∧ r = 0 ∧ e = 3) ∨ ((0 ≤ i ∧ i < (n.m : Int)) ∧ ls.length ≤ 256 ∧ (t < 0 ∨ (0 ≤ t ∧ 1099511627776 < t)) ∧ r = 0 ∧ e = 2) ∨
    (i = 0 ∧ ls.length ≤ 256 ∧ (0 ≤ t ∧ t ≤ 1099511627776) ∧ r = locV (n.cO 0) (n.cP 0) t ∧ e = 0) ∨
    (∃ j : Fin n.m, 0 < j.val ∧ i = (j.val : Int) ∧ ls.length ≤ 256 ∧ (0 ≤ t ∧ t ≤ 1099511627776) ∧ lastV n par ls j t < 0 ∧ r = 0 ∧ e = 4) ∨
    (∃ j : Fin n.m, 0 < j.val ∧ i = (j.val : Int) ∧ ls.length ≤ 256 ∧ (0 ≤ t ∧ t ≤ 1099511627776) ∧ 0 ≤ lastV n par ls j t ∧ r = syV n par j (lastV n par ls j t) t ∧ e = 0)

set_option maxHeartbeats 8000000 in
set_option maxRecDepth 100000 in
/-- .. at node 0 and at the errors. -/
theorem tTime_head (n : Nt) (hok : netOk n) (hb : n.Bd) (hc : n.Clk) (pa : Option Addr) (cap : Nat) (ls : List (Int × Int)) (i t : Int) (w : World) (hn : n.In w) (r e : Int)
    (h : (¬ (0 ≤ i ∧ i < (n.m : Int)) ∧ r = 0 ∧ e = 2) ∨ ((0 ≤ i ∧ i < (n.m : Int)) ∧ 256 < ls.length ∧ r = 0 ∧ e = 3) ∨ ((0 ≤ i ∧ i < (n.m : Int)) ∧ ls.length ≤ 256 ∧ (t < 0 ∨ (0 ≤ t ∧ 1099511627776 < t)) ∧ r = 0 ∧ e = 2) ∨
    (i = 0 ∧ ls.length ≤ 256 ∧ (0 ≤ t ∧ t ≤ 1099511627776) ∧ r = locV (n.cO 0) (n.cP 0) t ∧ e = 0)) :
    Calls Try.prog 16 #[.agg n.vs.toArray, .slice pa ls.length cap, .int .i64 i, .int .i64 t] w fun y w' => y = .returned (.tuple #[.int .i64 r, .int .i64 e]) ∧ Below w.heap.size w w' := by
  have ha2 := Lib.hid (show ∀ w, (isAgg 32).run Try.prog w = .ok true w from fun w => by kernel_rfl)
  have hs := Lib.hid (show ∀ w, (sizeOf 62).run Try.prog w = .ok n.vs.length w from fun w => by kernel_rfl)
  have hs2 := Lib.hid (show ∀ w, (sizeOf 32).run Try.prog w = .ok n.vs.length w from fun w => by kernel_rfl)
  have hs0 := Lib.hid (show ∀ w, (sizeOf 62).run Try.prog w = .ok zT.length w from fun w => by kernel_rfl)
  have hm := hb.m12
  have hm1 := hn.m1
  have HN := Lib.hid hn
  clear hn
  by_cases hr : 0 ≤ i ∧ i < (n.m : Int)
  · have HO := Lib.hid (fun W (hW : n.In W) => open_any n hm i W hW n.vs 0 (.inr (.inr ⟨hok, hr, rfl, rfl⟩)))
    go_enter Try.func16, Try.ntmps16
    rw [n.lit]
    go_wp2_with ((with_reducible refine at_load 32 (.tmp 4) ?_); refine wpList_load_whole rfl (.tmp 4) 32 rfl w.heap.size 0 n.vs rfl ha2.out hs2.out (holds_alloc w n.vs 32 rfl) ?_; simp only [Act.put, List.setIfInBounds_toArray, List.set_cons_succ, List.set_cons_zero])
    refine (HO.out _ (HN.out.keep (below_alloc (Below.refl _ _) _))).mono ?_
    rintro y w1 ⟨rfl, hb1⟩
    have H1 := Lib.hid (below_step (below_alloc (Below.refl _ _) _) hb1)
    have z1 := H1.out.size
    clear hb1 HO
    go_upto_region 2 with ((with_reducible refine at_store 62 (.tmp 10) (.tmp 23) ?_); refine wpList_store_whole rfl (.tmp 10) (.tmp 23) 62 rfl w1.heap.size 0 n.vs rfl rfl hs.out (zT_new _ rfl) (fun j _ => frozen_new _ _ _ _ rfl) n.vs_one ?_; intro w2 hw2)
    have M2 := Lib.hid (show Holds w2 w1.heap.size n.vs from hw2.here)
    have H2 := Lib.hid (hw2.below _ _ z1 (below_alloc H1.out _))
    have N2 := Lib.hid (HN.out.keep H2.out)
    have c0 : w2.cell? ⟨w1.heap.size, 0, none⟩ = some (.slice (some ⟨n.bc, n.oc, none⟩) n.m n.kc) := M2.out 0 _ rfl
    clear hw2 H1 HN
    rcases h with ⟨h1, _⟩ | ⟨_, h2, rfl, rfl⟩ | ⟨_, h2, h3, rfl, rfl⟩ | ⟨rfl, h2, ht, hr', rfl⟩
    · exact absurd hr h1
    · have h2' : (256 : Int) < (ls.length : Int) := by omega
      go_wp2
      go_ret2
      exact ⟨rfl, H2.out⟩
    · have h2' : ¬ (256 : Int) < (ls.length : Int) := by omega
      rcases h3 with h4 | ⟨t0, h4⟩
      all_goals
        go_wp2
        go_ret2
        exact ⟨rfl, H2.out⟩
    · have h2' : ¬ (256 : Int) < (ls.length : Int) := by omega
      have HF := Lib.hid (fun W => face_ok (n.cO 0) (n.cP 0) t (hc 0 hm1) ht W)
      rw [← hr'] at HF
      obtain ⟨t0, t1⟩ := ht
      have x1 : (0 : Int) < (n.m : Int) := by omega
      have e0 : w2.cell? ⟨n.bc, n.oc + 0 * 2, none⟩ = some (.int .i64 (n.cO 0)) := N2.out.c0 _ hm1
      have e1 : w2.cell? ⟨n.bc, n.oc + 0 * 2 + 1, none⟩ = some (.int .i64 (n.cP 0)) := N2.out.c1 _ hm1
      rw [Nat.zero_mul, Nat.add_zero] at e0 e1
      clear hr'
      go_wp2_with fail
      refine (HF.out _).mono ?_
      rintro y w3 ⟨rfl, hb3⟩
      have H3 := Lib.hid (below_step H2.out hb3)
      go_wp2
      go_ret2
      exact ⟨rfl, H3.out⟩
  · have HO := Lib.hid (fun W (hW : n.In W) => open_any n hm i W hW zT 2 (.inr (.inl ⟨hok, hr, rfl, rfl⟩)))
    obtain ⟨rfl, rfl⟩ : r = 0 ∧ e = 2 := by
      rcases h with ⟨_, h2, h3⟩ | ⟨h1, _⟩ | ⟨h1, _⟩ | ⟨h1, _⟩
      · exact ⟨h2, h3⟩
      · exact absurd h1 hr
      · exact absurd h1 hr
      · exact absurd ⟨by omega, by omega⟩ hr
    clear h hr
    go_enter Try.func16, Try.ntmps16
    rw [n.lit]
    go_wp2_with ((with_reducible refine at_load 32 (.tmp 4) ?_); refine wpList_load_whole rfl (.tmp 4) 32 rfl w.heap.size 0 n.vs rfl ha2.out hs2.out (holds_alloc w n.vs 32 rfl) ?_; simp only [Act.put, List.setIfInBounds_toArray, List.set_cons_succ, List.set_cons_zero])
    refine (HO.out _ (HN.out.keep (below_alloc (Below.refl _ _) _))).mono ?_
    rintro y w1 ⟨rfl, hb1⟩
    have H1 := Lib.hid (below_step (below_alloc (Below.refl _ _) _) hb1)
    have z1 := H1.out.size
    clear hb1 HO
    go_wp2_with ((with_reducible refine at_store 62 (.tmp 10) (.tmp 23) ?_); refine wpList_store_whole rfl (.tmp 10) (.tmp 23) 62 rfl w1.heap.size 0 zT rfl rfl hs0.out (zT_new _ rfl) (fun j _ => frozen_new _ _ _ _ rfl) zT_one ?_; intro w2 hw2)
    go_ret2
    exact ⟨rfl, hw2.below _ _ z1 (below_alloc H1.out _)⟩

end Go.Proofs.Ytkencmijghigiaa
