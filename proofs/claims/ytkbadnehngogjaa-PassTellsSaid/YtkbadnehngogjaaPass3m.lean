/-
  The walks of pass.apply at Message.
-/
import Derived.Test.YtkbadnehngogjaaPass2
import Derived.Test.YtkbadnehngogjaaPtpFol
import Derived.Test.YtkbadnehngogjaaWhole
namespace Go.Proofs.Ytkbadnehngogjaa
open Go.RowKit Go.Lib Plain

def z17 : List Value := [.int .i64 0, .int .i64 0, .int .i64 0, .int .i64 0, .int .i64 0, .int .i64 0, .int .i64 0, .int .i64 0, .int .i64 0, .int .i64 0, .int .i64 0, .int .i64 0, .int .i64 0, .int .i64 0, .int .i64 0, .int .i64 0, .int .i64 0]
theorem z17_one : ∀ v ∈ z17, v.oneCell' = true := by decide

set_option maxHeartbeats 2000000 in
set_option maxRecDepth 100000 in
theorem apMessage_bad (O C P : Int) (c0 c1 c2 c3 : Nat) (w : World) (al : Bool) (h : ¬ OkI O C P) :
    Calls Try.prog 47 #[.agg #[.int .i64 O, .int .i64 C, .int .i64 P], .bool al, .func (.func 48) #[] #[.pointer (some ⟨c0, 0, none⟩), .pointer (some ⟨c1, 0, none⟩), .pointer (some ⟨c2, 0, none⟩), .pointer (some ⟨c3, 0, none⟩)]] w fun e w' => e = .returned (.tuple #[.agg z17.toArray, .int .i64 240]) ∧ Below w.heap.size w w' := by
  have k := Lib.hid (show infV O C P = 240 from if_neg h)
  have ha := Lib.hid agg_msg
  have hs := Lib.hid size_msg
  clear h
  go_enter Try.func47, Try.ntmps47
  go_wp2_with fail
  refine (pCheck_any O C P _).mono ?_
  rw [k.out]
  rintro e w1 ⟨rfl, hb⟩
  have G := Lib.hid (show Holds w1 (w.heap.size + 1) z17 from ((holds_alloc _ z17 46 (by simp)).alloc (by simp) _).keep hb)
  have Z := Lib.hid (show Holds w1 (w.heap.size + 2) z17 from (holds_alloc _ z17 46 (by simp)).keep hb)
  have GF := Lib.hid (show ∀ o, w1.frozen? ⟨w.heap.size + 1, o, none⟩ = false from fun o => by rw [(bcell hb).2 _ _ (by first | (simp; done) | (simp; omega)), World.frozen?_alloc_old _ _ _ (by simp)]; exact frozen_new _ _ _ _ (by simp))
  have H1 := Lib.hid (below_step (below_alloc (below_alloc (below_alloc (Below.refl _ _) _) _) _) hb)
  clear hb
  go_wp2_with (first | refine wpList_load_whole rfl (.tmp 8) 46 rfl (w.heap.size + 2) 0 z17 rfl ha.out hs.out Z.out ?_ | (refine wpList_store_whole rfl (.tmp 6) (.tmp 14) 46 rfl (w.heap.size + 1) 0 z17 rfl rfl hs.out (fun j hj => G.out.some j (by simpa [z17] using hj)) (fun j _ => GF.out (0 + j)) z17_one ?_; intro w5 hw5))
  have hL := run_loadVar_whole (P := Try.prog) (w := w5) 46 (w.heap.size + 1) 0 z17 ha.out hs.out hw5.here
  refine bodyPost_ret (v := .tuple #[.agg z17.toArray, .int .i64 240]) (results_cell_tmp 6 7 46 Try.results47 (w.heap.size + 1) 0 _ _ rfl hL rfl) rfl ⟨rfl, hw5.below _ _ (by omega) H1.out⟩

set_option maxHeartbeats 2000000 in
set_option maxRecDepth 100000 in
theorem apMessage_no (O C P : Int) (c0 c1 c2 c3 : Nat) (w : World) (h : OkI O C P) :
    Calls Try.prog 47 #[.agg #[.int .i64 O, .int .i64 C, .int .i64 P], .bool false, .func (.func 48) #[] #[.pointer (some ⟨c0, 0, none⟩), .pointer (some ⟨c1, 0, none⟩), .pointer (some ⟨c2, 0, none⟩), .pointer (some ⟨c3, 0, none⟩)]] w fun e w' => e = .returned (.tuple #[.agg z17.toArray, .int .i64 2]) ∧ Below w.heap.size w w' := by
  have k := Lib.hid (show infV O C P = 0 from if_pos h)
  have ha := Lib.hid agg_msg
  have hs := Lib.hid size_msg
  clear h
  go_enter Try.func47, Try.ntmps47
  go_wp2_with fail
  refine (pCheck_any O C P _).mono ?_
  rw [k.out]
  rintro e w1 ⟨rfl, hb⟩
  have G := Lib.hid (show Holds w1 (w.heap.size + 1) z17 from ((holds_alloc _ z17 46 (by simp)).alloc (by simp) _).keep hb)
  have Z := Lib.hid (show Holds w1 (w.heap.size + 2) z17 from (holds_alloc _ z17 46 (by simp)).keep hb)
  have GF := Lib.hid (show ∀ o, w1.frozen? ⟨w.heap.size + 1, o, none⟩ = false from fun o => by rw [(bcell hb).2 _ _ (by first | (simp; done) | (simp; omega)), World.frozen?_alloc_old _ _ _ (by simp)]; exact frozen_new _ _ _ _ (by simp))
  have H1 := Lib.hid (below_step (below_alloc (below_alloc (below_alloc (Below.refl _ _) _) _) _) hb)
  clear hb
  go_wp2_with (first | refine wpList_load_whole rfl (.tmp 8) 46 rfl (w.heap.size + 2) 0 z17 rfl ha.out hs.out Z.out ?_ | (refine wpList_store_whole rfl (.tmp 6) (.tmp 18) 46 rfl (w.heap.size + 1) 0 z17 rfl rfl hs.out (fun j hj => G.out.some j (by simpa [z17] using hj)) (fun j _ => GF.out (0 + j)) z17_one ?_; intro w5 hw5))
  have hL := run_loadVar_whole (P := Try.prog) (w := w5) 46 (w.heap.size + 1) 0 z17 ha.out hs.out hw5.here
  refine bodyPost_ret (v := .tuple #[.agg z17.toArray, .int .i64 2]) (results_cell_tmp 6 7 46 Try.results47 (w.heap.size + 1) 0 _ _ rfl hL rfl) rfl ⟨rfl, hw5.below _ _ (by omega) H1.out⟩

set_option maxHeartbeats 2000000 in
set_option maxRecDepth 100000 in
theorem apMessage_go (O C P : Int) (c0 c1 c2 c3 : Nat) (w : World) (rs : List Value) (hrs : rs.length = 17) (h1 : ∀ v ∈ rs, v.oneCell' = true) (re : Int) (h : OkI O C P) (HS : Hid (∀ W, Below w.heap.size w W → Calls Try.prog 48 #[.pointer (some ⟨c0, 0, none⟩), .pointer (some ⟨c1, 0, none⟩), .pointer (some ⟨c2, 0, none⟩), .pointer (some ⟨c3, 0, none⟩)] W fun e W' => e = .returned (.tuple #[.agg rs.toArray, .int .i64 re]) ∧ Below W.heap.size W W')) :
    Calls Try.prog 47 #[.agg #[.int .i64 O, .int .i64 C, .int .i64 P], .bool true, .func (.func 48) #[] #[.pointer (some ⟨c0, 0, none⟩), .pointer (some ⟨c1, 0, none⟩), .pointer (some ⟨c2, 0, none⟩), .pointer (some ⟨c3, 0, none⟩)]] w fun e w' => e = .returned (.tuple #[.agg rs.toArray, .int .i64 re]) ∧ Below w.heap.size w w' := by
  have k := Lib.hid (show infV O C P = 0 from if_pos h)
  have ha := Lib.hid agg_msg
  have hs := Lib.hid size_msg
  clear h
  go_enter Try.func47, Try.ntmps47
  go_wp2_with fail
  refine (pCheck_any O C P _).mono ?_
  rw [k.out]
  rintro e w1 ⟨rfl, hb⟩
  have G := Lib.hid (show Holds w1 (w.heap.size + 1) z17 from ((holds_alloc _ z17 46 (by simp)).alloc (by simp) _).keep hb)
  have GF := Lib.hid (show ∀ o, w1.frozen? ⟨w.heap.size + 1, o, none⟩ = false from fun o => by rw [(bcell hb).2 _ _ (by first | (simp; done) | (simp; omega)), World.frozen?_alloc_old _ _ _ (by simp)]; exact frozen_new _ _ _ _ (by simp))
  have H1 := Lib.hid (below_step (below_alloc (below_alloc (below_alloc (Below.refl _ _) _) _) _) hb)
  clear hb
  go_wp2_with fail
  refine (HS.out _ H1.out).mono ?_
  rintro e w2 ⟨rfl, hb⟩
  have G2 := Lib.hid (G.out.keep hb)
  have GF2 := Lib.hid (show ∀ o, w2.frozen? ⟨w.heap.size + 1, o, none⟩ = false from fun o => ((bcell hb).2 _ _ (World.block_lt_of_cell? w1 ⟨w.heap.size + 1, 0 + 0, none⟩ (G.out 0 _ rfl))).trans (GF.out o))
  have H2 := Lib.hid (below_step H1.out hb)
  clear hb
  go_wp2_with (first | refine wpList_load_whole rfl (.tmp 8) 46 rfl (w.heap.size + 2) 0 z17 rfl ha.out hs.out (fun j v hv => absurd hv (by simp)) ?_ | (refine wpList_store_whole rfl (.tmp 6) (.tmp 21) 46 rfl (w.heap.size + 1) 0 rs rfl rfl (by rw [hrs]; exact hs.out) (fun j hj => G2.out.some j (by rw [hrs] at hj; exact hj)) (fun j _ => GF2.out (0 + j)) h1 ?_; intro w5 hw5))
  have hL := run_loadVar_whole (P := Try.prog) (w := w5) 46 (w.heap.size + 1) 0 rs ha.out (by rw [hrs]; exact hs.out) hw5.here
  refine bodyPost_ret (v := .tuple #[.agg rs.toArray, .int .i64 re]) (results_cell_tmp 6 7 46 Try.results47 (w.heap.size + 1) 0 _ _ rfl hL rfl) rfl ⟨rfl, hw5.below _ _ (by omega) H2.out⟩

end Go.Proofs.Ytkbadnehngogjaa
