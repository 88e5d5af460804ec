/-
  timenet.Error.
-/
import Derived.Test.YtkencmijghigiaaMTimG15
namespace Go.Proofs.Ytkencmijghigiaa
open Go.RowKit Go.Lib Go.Shelf Plain

/-- Time, all of it. -/
theorem tTime_any (n : Nt) (hok : netOk n) (hb : n.Bd) (hc : n.Clk) (par : Fin n.m → Fin n.m) (hp : n.Par par) (pa : Option Addr) (cap : Nat) (ls : List (Int × Int)) (hw : ∀ y ∈ ls, WfL y) (i t : Int) (w : World) (hn : n.In w) (hl : LsIn pa ls w) (r e : Int) (h : TimCase n par ls i t r e) :
    Calls Try.prog 16 #[.agg n.vs.toArray, .slice pa ls.length cap, .int .i64 i, .int .i64 t] w fun y w' => y = .returned (.tuple #[.int .i64 r, .int .i64 e]) ∧ Below w.heap.size w w' := by
  rcases h with h | h | h | h | ⟨j, j0, rfl, h2, ht, h3⟩ | ⟨j, j0, rfl, h2, ht, h3⟩
  · exact tTime_head n hok hb hc pa cap ls i t w hn r e (.inl h)
  · exact tTime_head n hok hb hc pa cap ls i t w hn r e (.inr (.inl h))
  · exact tTime_head n hok hb hc pa cap ls i t w hn r e (.inr (.inr (.inl h)))
  · exact tTime_head n hok hb hc pa cap ls i t w hn r e (.inr (.inr (.inr h)))
  · exact tTime_go n hok hb hc par hp pa cap ls hw h2 j j0 t ht.1 ht.2 w hn hl r e (.inl h3)
  · exact tTime_go n hok hb hc par hp pa cap ls hw h2 j j0 t ht.1 ht.2 w hn hl r e (.inr h3)

theorem tim_bd {n : Nt} (hb : n.Bd) (hc : n.Clk) {par : Fin n.m → Fin n.m} (hp : n.Par par) (hm : 1 ≤ n.m) {ls : List (Int × Int)} {i t r e : Int} (h : TimCase n par ls i t r e) : -14000000000000 ≤ r ∧ r ≤ 14000000000000 := by
  rcases h with ⟨_, rfl, _⟩ | ⟨_, _, rfl, _⟩ | ⟨_, _, _, rfl, _⟩ | ⟨_, _, ht, rfl, _⟩ | ⟨j, _, _, _, _, _, rfl, _⟩ | ⟨j, j0, _, _, ht, k0, rfl, _⟩
  · omega
  · omega
  · omega
  · have := loc_bd (hc 0 hm) (t := t) ht
    omega
  · omega
  · obtain ⟨k1, _⟩ := lastV_arr hb k0 ht.2
    obtain ⟨_, _, _, os, _⟩ := set_ok hb hc hp j0 k0 k1
    have hl := loc_bd (hc j.val j.isLt) (t := t) ht
    have := at_bd os (l := locV (n.cO j.val) (n.cP j.val) t) ⟨by omega, by omega⟩
    unfold syV
    omega

set_option maxHeartbeats 8000000 in
set_option maxRecDepth 100000 in
theorem tError_any (n : Nt) (hok : netOk n) (hb : n.Bd) (hc : n.Clk) (par : Fin n.m → Fin n.m) (hp : n.Par par) (pa : Option Addr) (cap : Nat) (ls : List (Int × Int)) (hw : ∀ y ∈ ls, WfL y) (i t : Int) (w : World) (hn : n.In w) (hl : LsIn pa ls w) (v r e : Int) (h : TimCase n par ls i t v e)
    (hr : (e ≠ 0 ∧ r = 0) ∨ (e = 0 ∧ (0 ≤ t ∧ t ≤ 1099511627776) ∧ r = v - locV (n.cO 0) (n.cP 0) t)) :
    Calls Try.prog 12 #[.agg n.vs.toArray, .slice pa ls.length cap, .int .i64 i, .int .i64 t] w fun y w' => y = .returned (.tuple #[.int .i64 r, .int .i64 e]) ∧ Below w.heap.size w w' := by
  have ha2 := Lib.hid (show ∀ w, (isAgg 32).run Try.prog w = .ok true w from fun w => by kernel_rfl)
  have hs2 := Lib.hid (show ∀ w, (sizeOf 32).run Try.prog w = .ok n.vs.length w from fun w => by kernel_rfl)
  have hm1 := hn.m1
  have hvb := tim_bd hb hc hp hm1 h
  have HT := Lib.hid (fun W (hW : n.In W) (hX : LsIn pa ls W) => tTime_any n hok hb hc par hp pa cap ls hw i t W hW hX v e h)
  have HN := Lib.hid hn
  have HL := Lib.hid hl
  clear hn hl h
  rcases hr with ⟨h1, rfl⟩ | ⟨rfl, ht, hr⟩
  · go_enter Try.func12, Try.ntmps12
    rw [n.lit]
    go_wp2_with ((with_reducible refine at_load 32 (.tmp 4) ?_); refine wpList_load_whole rfl (.tmp 4) 32 rfl w.heap.size 0 n.vs rfl ha2.out hs2.out (holds_alloc w n.vs 32 rfl) ?_; simp only [Act.put, List.setIfInBounds_toArray, List.set_cons_succ, List.set_cons_zero])
    refine (HT.out _ (HN.out.keep (below_alloc (Below.refl _ _) _)) (HL.out.keep (below_alloc (Below.refl _ _) _))).mono ?_
    rintro y w1 ⟨rfl, hb1⟩
    have H1 := Lib.hid (below_step (below_alloc (Below.refl _ _) _) hb1)
    go_wp2
    go_ret2
    exact ⟨rfl, H1.out⟩
  · have HF := Lib.hid (fun W => face_ok (n.cO 0) (n.cP 0) t (hc 0 hm1) ht W)
    have hlb := loc_bd (hc 0 hm1) (t := t) ht
    obtain ⟨q, hq⟩ : ∃ q, locV (n.cO 0) (n.cP 0) t = q := ⟨_, rfl⟩
    rw [hq] at HF hr hlb
    clear hq
    obtain ⟨t0, t1⟩ := ht
    obtain ⟨v0, v1⟩ := hvb
    obtain ⟨l0, l1, -, -⟩ := hlb
    have hqr : v - q = r := hr.symm
    have hr0 : -17000000000000 ≤ r := by omega
    have hr1 : r ≤ 17000000000000 := by omega
    clear hr
    have x1 : (0 : Int) < (n.m : Int) := by omega
    go_enter Try.func12, Try.ntmps12
    rw [n.lit]
    go_wp2_with ((with_reducible refine at_load 32 (.tmp 4) ?_); refine wpList_load_whole rfl (.tmp 4) 32 rfl w.heap.size 0 n.vs rfl ha2.out hs2.out (holds_alloc w n.vs 32 rfl) ?_; simp only [Act.put, List.setIfInBounds_toArray, List.set_cons_succ, List.set_cons_zero])
    refine (HT.out _ (HN.out.keep (below_alloc (Below.refl _ _) _)) (HL.out.keep (below_alloc (Below.refl _ _) _))).mono ?_
    rintro y w1 ⟨rfl, hb1⟩
    have M1 := Lib.hid ((holds_alloc w n.vs 32 rfl).keep hb1)
    have H1 := Lib.hid (below_step (below_alloc (Below.refl _ _) _) hb1)
    have N1 := Lib.hid (HN.out.keep H1.out)
    have c0 : w1.cell? ⟨w.heap.size, 0, none⟩ = some (.slice (some ⟨n.bc, n.oc, none⟩) n.m n.kc) := M1.out 0 _ rfl
    have e0 : w1.cell? ⟨n.bc, n.oc + 0 * 2, none⟩ = some (.int .i64 (n.cO 0)) := N1.out.c0 _ hm1
    have e1 : w1.cell? ⟨n.bc, n.oc + 0 * 2 + 1, none⟩ = some (.int .i64 (n.cP 0)) := N1.out.c1 _ hm1
    rw [Nat.zero_mul, Nat.add_zero] at e0 e1
    clear hb1 HT HN HL M1
    go_wp2_with fail
    refine (HF.out _).mono ?_
    rintro y w3 ⟨rfl, hb3⟩
    have H3 := Lib.hid (below_step H1.out hb3)
    go_wp2
    go_ret2
    exact ⟨rfl, H3.out⟩

end Go.Proofs.Ytkencmijghigiaa
