/-
  timenet.Last of a valid network.
-/
import Derived.Test.YtkencmijghigiaaMLast15
import Derived.Test.YtkencmijghigiaaMTMea15
namespace Go.Proofs.Ytkencmijghigiaa
open Go.RowKit Go.Lib Go.Shelf Plain

/-- What Last answers. -/
def LstCase (n : Nt) (par : Fin n.m → Fin n.m) (ls : List (Int × Int)) (i t r e : Int) : Prop :=
  (¬ (0 ≤ i ∧ i < (n.m : Int)) ∧ r = 0 ∧ e = 2) ∨ ((0 ≤ i ∧ i < (n.m : Int)) ∧ 256 < ls.length ∧ r = 0 ∧ e = 3) ∨ ((0 ≤ i ∧ i < (n.m : Int)) ∧ ls.length ≤ 256 ∧ (i = 0 ∨ (0 < i ∧ t < 0) ∨ (0 < i ∧ 0 ≤ t ∧ 1099511627776 < t)) ∧ r = 0 ∧ e = 2) ∨
    (∃ j : Fin n.m, 0 < j.val ∧ i = (j.val : Int) ∧ ls.length ≤ 256 ∧ (0 ≤ t ∧ t ≤ 1099511627776) ∧ LastCase n par ls j t r e)

set_option maxHeartbeats 8000000 in
set_option maxRecDepth 100000 in
theorem tLast_any (n : Nt) (hok : netOk n) (hb : n.Bd) (par : Fin n.m → Fin n.m) (hp : n.Par par) (pa : Option Addr) (cap : Nat) (ls : List (Int × Int)) (hw : ∀ y ∈ ls, WfL y) (i t : Int) (w : World) (hn : n.In w) (hl : ls.length ≤ 256 → LsIn pa ls w) (r e : Int)
    (h : LstCase n par ls i t r e) :
    Calls Try.prog 13 #[.agg n.vs.toArray, .slice pa ls.length cap, .int .i64 i, .int .i64 t] w fun y w' => y = .returned (.tuple #[.int .i64 r, .int .i64 e]) ∧ Below w.heap.size w w' := by
  have ha := Lib.hid (show ∀ w, (isAgg 62).run Try.prog w = .ok true w from fun w => by kernel_rfl)
  have hs := Lib.hid (show ∀ w, (sizeOf 62).run Try.prog w = .ok n.vs.length w from fun w => by kernel_rfl)
  have ha2 := Lib.hid (show ∀ w, (isAgg 32).run Try.prog w = .ok true w from fun w => by kernel_rfl)
  have hs2 := Lib.hid (show ∀ w, (sizeOf 32).run Try.prog w = .ok n.vs.length w from fun w => by kernel_rfl)
  have hs0 := Lib.hid (show ∀ w, (sizeOf 62).run Try.prog w = .ok zT.length w from fun w => by kernel_rfl)
  have hm := hb.m12
  have hm1 := hn.m1
  have HN := Lib.hid hn
  have HL := Lib.hid hl
  clear hn hl
  by_cases hr : 0 ≤ i ∧ i < (n.m : Int)
  · have HO := Lib.hid (fun W (hW : n.In W) => open_any n hm i W hW n.vs 0 (.inr (.inr ⟨hok, hr, rfl, rfl⟩)))
    go_enter Try.func13, Try.ntmps13
    rw [n.lit]
    go_wp2_with ((with_reducible refine at_load 32 (.tmp 4) ?_); refine wpList_load_whole rfl (.tmp 4) 32 rfl w.heap.size 0 n.vs rfl ha2.out hs2.out (holds_alloc w n.vs 32 rfl) ?_; simp only [Act.put, List.setIfInBounds_toArray, List.set_cons_succ, List.set_cons_zero])
    refine (HO.out _ (HN.out.keep (below_alloc (Below.refl _ _) _))).mono ?_
    rintro y w1 ⟨rfl, hb1⟩
    have H1 := Lib.hid (below_step (below_alloc (Below.refl _ _) _) hb1)
    have z1 := H1.out.size
    clear hb1 HO
    go_upto_region 2 with ((with_reducible refine at_store 62 (.tmp 10) (.tmp 16) ?_); refine wpList_store_whole rfl (.tmp 10) (.tmp 16) 62 rfl w1.heap.size 0 n.vs rfl rfl hs.out (zT_new _ rfl) (fun j _ => frozen_new _ _ _ _ rfl) n.vs_one ?_; intro w2 hw2)
    have M2 := Lib.hid (show Holds w2 w1.heap.size n.vs from hw2.here)
    have H2 := Lib.hid (hw2.below _ _ z1 (below_alloc H1.out _))
    have N2 := Lib.hid (HN.out.keep H2.out)
    clear hw2 H1 HN
    rcases h with ⟨h1, _⟩ | ⟨_, h2, rfl, rfl⟩ | ⟨_, h2, h3, rfl, rfl⟩ | ⟨j, j0, rfl, h2, ht, h3⟩
    · exact absurd hr h1
    · have h2' : (256 : Int) < (ls.length : Int) := by omega
      go_wp2
      go_ret2
      exact ⟨rfl, H2.out⟩
    · have h2' : ¬ (256 : Int) < (ls.length : Int) := by omega
      rcases h3 with rfl | ⟨i0, h4⟩ | ⟨i0, t0, h4⟩
      · go_wp2
        go_ret2
        exact ⟨rfl, H2.out⟩
      all_goals
        have iz : ¬ i = 0 := by omega
        have izb : (i == 0) = false := beq_eq_false_iff_ne.2 iz
        go_wp2
        go_ret2
        exact ⟨rfl, H2.out⟩
    · have h2' : ¬ (256 : Int) < (ls.length : Int) := by omega
      have jz : ¬ (j.val : Int) = 0 := by omega
      have jz2 : ¬ j.val = 0 := by omega
      have jzb : ((j.val : Int) == 0) = false := beq_eq_false_iff_ne.2 jz
      obtain ⟨t0, t1⟩ := ht
      have HLa := Lib.hid (fun W (hW : n.In W) (hX : LsIn pa ls W) => last_any n hb par hp j pa cap ls hw h2 t t0 t1 W hW hX r e h3)
      clear h3
      have L2 := Lib.hid ((HL.out h2).keep H2.out)
      go_wp2_with ((with_reducible refine at_load 62 (.tmp 10) ?_); refine wpList_load_whole rfl (.tmp 10) 62 rfl w1.heap.size 0 n.vs rfl ha.out hs.out M2.out ?_; simp only [Act.put, List.setIfInBounds_toArray, List.set_cons_succ, List.set_cons_zero])
      refine (HLa.out _ N2.out L2.out).mono ?_
      rintro y w3 ⟨rfl, hb3⟩
      have H3 := Lib.hid (below_step H2.out hb3)
      go_wp2
      go_ret2
      exact ⟨rfl, H3.out⟩
  · have HO := Lib.hid (fun W (hW : n.In W) => open_any n hm i W hW zT 2 (.inr (.inl ⟨hok, hr, rfl, rfl⟩)))
    obtain ⟨rfl, rfl⟩ : r = 0 ∧ e = 2 := by
      rcases h with ⟨_, h2, h3⟩ | ⟨h1, _⟩ | ⟨h1, _⟩ | ⟨j, _, h1, _⟩
      · exact ⟨h2, h3⟩
      · exact absurd h1 hr
      · exact absurd h1 hr
      · exact absurd ⟨by omega, by have := j.isLt; omega⟩ hr
    clear h hr
    go_enter Try.func13, Try.ntmps13
    rw [n.lit]
    go_wp2_with ((with_reducible refine at_load 32 (.tmp 4) ?_); refine wpList_load_whole rfl (.tmp 4) 32 rfl w.heap.size 0 n.vs rfl ha2.out hs2.out (holds_alloc w n.vs 32 rfl) ?_; simp only [Act.put, List.setIfInBounds_toArray, List.set_cons_succ, List.set_cons_zero])
    refine (HO.out _ (HN.out.keep (below_alloc (Below.refl _ _) _))).mono ?_
    rintro y w1 ⟨rfl, hb1⟩
    have H1 := Lib.hid (below_step (below_alloc (Below.refl _ _) _) hb1)
    have z1 := H1.out.size
    clear hb1 HO
    go_wp2_with ((with_reducible refine at_store 62 (.tmp 10) (.tmp 16) ?_); refine wpList_store_whole rfl (.tmp 10) (.tmp 16) 62 rfl w1.heap.size 0 zT rfl rfl hs0.out (zT_new _ rfl) (fun j _ => frozen_new _ _ _ _ rfl) zT_one ?_; intro w2 hw2)
    go_ret2
    exact ⟨rfl, hw2.below _ _ z1 (below_alloc H1.out _)⟩

end Go.Proofs.Ytkencmijghigiaa
