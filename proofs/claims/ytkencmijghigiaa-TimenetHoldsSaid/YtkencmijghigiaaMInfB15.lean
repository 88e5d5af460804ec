/-
  (tree).info by induction on the node, and info itself.
-/
import Derived.Test.YtkencmijghigiaaMInfA15
namespace Go.Proofs.Ytkencmijghigiaa
open Go.RowKit Go.Lib Go.Shelf Plain

theorem arrives_any (n : Nt) (hb : n.Bd) (hc : n.Clk) (par : Fin n.m → Fin n.m) (hp : n.Par par) (k : Int) (k0 : 0 ≤ k) (bt bk ba bl : Nat) : ∀ (v : Nat) (i : Fin n.m), i.val = v → 0 < i.val → k ≤ lastK n par i → ∀ (w : World), InfE n k bt bk ba bl w →
    Calls Try.prog 54 #[.int .i64 (i.val : Int), .pointer (some ⟨bl, 0, none⟩), .pointer (some ⟨bt, 0, none⟩)] w fun y w' =>
      y = .returned (.tuple #[.agg #[.int .i64 (orgV n k), .int .i64 (arI n par k i).1, .int .i64 (arI n par k i).2], .int .i64 0]) ∧ Below w.heap.size w w' := by
  intro v
  induction v using Nat.strongRecOn with
  | ind v ih =>
    intro i hv h0 k1 w he
    have hl := hp.lt i h0
    have hst := arI_step hp k h0
    have hok := (arI_ok hb hc hp h0 k0 k1).1
    obtain ⟨r0, r1⟩ := meaR_bd hb hc par i
    obtain ⟨e0, e1⟩ := meaD_bd hb hc par i
    obtain ⟨t0, t1⟩ := db_bd hb i.isLt
    have d0 := hb.de0 i.val i.isLt
    have d1 := hb.de1 i.val i.isLt
    obtain ⟨-, -, -, -, q0, q1⟩ := rateK_bd hb
    obtain ⟨_, _, b3, b4⟩ := hc i.val i.isLt
    obtain ⟨_, _, b5, b6⟩ := hc (par i).val (par i).isLt
    have hlv := lvI_ok hb hc hp h0 k0 k1
    have hArr : ArrOk (orgV n k) (lvI n par k (par i)).1 (lvI n par k (par i)).2 (meaD n par i) (meaR n par i) := by
      rw [hst] at hok
      exact ⟨hlv, ⟨⟨by omega, by omega⟩, ⟨by omega, by omega⟩⟩, hok⟩
    rw [hst]
    refine arrives_more n i (par i) (hp.eq i h0) k (orgV n k) (lvI n par k (par i)).1 (lvI n par k (par i)).2 (meaD n par i) (meaR n par i) _ _ bt bk ba bl
      (fun W hW => measure_any n hb hc par hp i h0 W hW) (fun W => arrive_ok hArr W) (fun W hW => ?_) w he
    by_cases hz : (par i).val = 0
    · have hor := org_bd hb hc hp h0 k0 k1
      have ha := arr_bd hb hp k0 k1
      have h3 := hb.st0
      have h4 := hb.ga0
      have h5 := hb.tu0
      have hL := leaves_zero n k bt bk ba bl (hc 0 (by omega)) hor.1 ha.1 (by omega) W hW
      rw [show ((par i).val : Int) = 0 by omega, show lvI n par k (par i) = (0, 0) by unfold lvI lvQ; rw [if_pos hz]]
      exact hL
    · have k2 := lastK_par hb hp h0 k0 k1
      have hq : 0 < (par i).val := by omega
      have hIH := fun W hW => ih (par i).val (by omega) (par i) rfl hq k2 W hW
      have hap := (arI_ok hb hc hp hq k0 k2).1
      obtain ⟨x0, x1⟩ := el_bd hb hc par k (par i)
      have hlq : lvI n par k (par i) = (corV (arI n par k (par i)).1 (elN n par k (par i)) (arI n par k (par i)).2, (arI n par k (par i)).2) := by unfold lvI lvQ; rw [if_neg hz]
      rw [hlq] at hlv ⊢
      exact leaves_more n (par i) hq k (arrV n par (par i) k) (orgV n k) (arI n par k (par i)).1 (arI n par k (par i)).2 (elN n par k (par i)) _ bt bk ba bl
        (fun W hW => arrival_any n hb par hp (par i) k W hW _ _ (.inr (.inr ⟨⟨hq, k0, k2⟩, rfl, rfl⟩)))
        (fun W => elapsed_ok (hc (par i).val (par i).isLt) (stay_ok hb hp h0 k0 k1 hq) W)
        (fun W => leave_ok ⟨hap, ⟨x0, by omega⟩, hlv⟩ W)
        hIH W hW

set_option maxHeartbeats 8000000 in
set_option maxRecDepth 100000 in
theorem info_any (n : Nt) (hb : n.Bd) (hc : n.Clk) (par : Fin n.m → Fin n.m) (hp : n.Par par) (k : Int) (i : Fin n.m) (h0 : 0 < i.val) (k0 : 0 ≤ k) (k1 : k ≤ lastK n par i) (w : World) (hn : n.In w) :
    Calls Try.prog 33 #[.agg n.vs.toArray, .int .i64 (i.val : Int), .int .i64 k] w fun y w' =>
      y = .returned (.tuple #[.agg #[.int .i64 (orgV n k), .int .i64 (arI n par k i).1, .int .i64 (arI n par k i).2], .int .i64 0]) ∧ Below w.heap.size w w' := by
  have hA := Lib.hid (fun bt bk ba bl W (hW : InfE n k bt bk ba bl W) => arrives_any n hb hc par hp k k0 bt bk ba bl i.val i rfl h0 k1 W hW)
  have hN := Lib.hid hn
  clear hn
  generalize (arI n par k i).1 = C at *
  generalize (arI n par k i).2 = P at *
  generalize orgV n k = O at *
  have hai := Lib.hid agg_inf
  have hsr := Lib.hid (show ∀ w, (sizeOf 48).run Try.prog w = .ok [Value.int .i64 O, .int .i64 C, .int .i64 P].length w from size_inf)
  go_enter Try.func33, Try.ntmps33
  rw [n.lit]
  go_upto_region 4 with fail
  refine wp_world ?_
  intro V hV
  have H0 := Lib.hid (show Below w.heap.size w V by subst hV; exact below_alloc (below_alloc (below_alloc (below_alloc (below_alloc (Below.refl _ _) _) _) _) _) _)
  have E0 := Lib.hid (show InfE n k w.heap.size (w.heap.size + 1) (w.heap.size + 1 + 1 + 1) (w.heap.size + 1 + 1 + 1 + 1) V from
    ⟨hN.out.keep H0.out, by subst hV; exact ((((holds_alloc w n.vs 62 rfl).alloc (by simp) _).alloc (by simp; omega) _).alloc (by simp; omega) _).alloc (by simp; omega) _, by subst hV; simp [go_sem], by subst hV; simp [go_sem], by subst hV; simp [go_sem]⟩)
  have Z0 := Lib.hid (show Holds V (w.heap.size + 1 + 1) [.int .i64 0, .int .i64 0, .int .i64 0] by subst hV; exact ((holds_alloc _ [.int .i64 0, .int .i64 0, .int .i64 0] 48 (by simp)).alloc (by simp) _).alloc (by simp) _)
  have F0 := Lib.hid (show ∀ u, V.frozen? ⟨w.heap.size + 1 + 1, u, none⟩ = false by subst hV; intro u; simp [go_sem])
  clear hV
  have ca := E0.out.a
  go_wp2_with fail
  refine (hA.out _ _ _ _ _ E0.out).mono ?_
  rintro y w7 ⟨rfl, hb7⟩
  have zw : w.heap.size + 1 + 1 < V.heap.size := World.block_lt_of_cell? _ _ (Z0.out 0 _ rfl)
  have Z7 := Lib.hid (Z0.out.keep hb7)
  have F7 := Lib.hid (show ∀ u, w7.frozen? ⟨w.heap.size + 1 + 1, u, none⟩ = false from fun u => by rw [(bcell hb7).2 _ _ zw]; exact F0.out u)
  have H7 := Lib.hid (below_step H0.out hb7)
  clear hb7 Z0 F0 H0 E0 ca zw
  go_wp2_with ((with_reducible refine at_store 48 (.tmp 6) (.tmp 15) ?_); refine wpList_store_whole rfl (.tmp 6) (.tmp 15) 48 rfl (w.heap.size + 1 + 1) 0 [.int .i64 O, .int .i64 C, .int .i64 P] rfl rfl hsr.out (fun j hj => Z7.out.some j hj) (fun j _ => F7.out _) (three_one15 _ _ _) ?_; intro w8 hw8)
  have hL2 := run_loadVar_whole (P := Try.prog) (w := w8) 48 (w.heap.size + 1 + 1) 0 [.int .i64 O, .int .i64 C, .int .i64 P] hai.out hsr.out hw8.here
  exact bodyPost_ret (v := .tuple #[.agg #[.int .i64 O, .int .i64 C, .int .i64 P], .int .i64 0]) (results_cell_tmp 6 7 48 Try.results33 (w.heap.size + 1 + 1) 0 _ _ rfl hL2 rfl) rfl ⟨rfl, hw8.below _ _ (by omega) H7.out⟩

end Go.Proofs.Ytkencmijghigiaa
