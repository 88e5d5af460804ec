/-
  Sorting the routes: the choice of a pivot. No conditions.
-/
import Derived.Test.YtjhpbemnklpefaaMBc
namespace Go.Proofs.Ytjhpbemnklpefaa
open Go.RowKit Go.Lib Plain

/-- .. with the counter of exchanges. -/
structure SB (g : Tg) (w : World) (q n : Nat) (f : Nat → Rt) (sb s : Nat) (W : World) : Prop where
  r : SR g w q n f W
  c : W.cell? ⟨sb, 0, none⟩ = some (.int .i64 (s : Int))
  z : W.frozen? ⟨sb, 0, none⟩ = false
  ne : sb ≠ q
  rb : ∀ i, i < n → (f i).xs ≠ [] → (f i).b ≠ sb
  h : w.heap.size ≤ sb
section
variable {g : Tg} {w : World} {q n : Nat} {f : Nat → Rt} {sb s : Nat} {W W' : World}
theorem SB.keep (h : SB g w q n f sb s W) (hb : Below W.heap.size W W') : SB g w q n f sb s W' :=
  ⟨h.r.keep hb, below_keep hb h.c, by rw [hb.frozen (p := ⟨sb, 0, none⟩) (World.block_lt_of_cell? _ _ h.c)]; exact h.z, h.ne, h.rb, h.h⟩
theorem SB.bump (h : SB g w q n f sb s W) (t : Nat) : SB g w q n f sb t (W.setCell ⟨sb, 0, none⟩ (.int .i64 (t : Int))) := by
  refine ⟨⟨fun i hi => ?_, fun x => by rw [World.frozen?_setCell]; exact h.r.z x, fun i hi => ⟨fun x hx => ?_, (h.r.r i hi).2⟩, h.r.b.setCell (p := ⟨sb, 0, none⟩) h.h _, by simpa [World.setCell] using h.r.lt, h.r.h⟩, World.cell?_setCell_same _ _ _ h.c, by rw [World.frozen?_setCell]; exact h.z, h.ne, h.rb, h.h⟩
  · rw [World.cell?_setCell_far _ _ _ _ h.ne]
    exact h.r.c i hi
  · rw [World.cell?_setCell_far _ _ _ _ (Ne.symm (h.rb i hi (fun e => by rw [e] at hx; simp at hx)))]
    exact (h.r.r i hi).1 x hx
end
def OQ (g : Tg) (w : World) (q n : Nat) (f : Nat → Rt) (sb s a b : Nat) (e : Ending) (W' : World) : Prop :=
  ∃ x y s' : Nat, e = .returned (.tuple #[.int .i64 (x : Int), .int .i64 (y : Int)]) ∧ ((x = a ∧ y = b) ∨ (x = b ∧ y = a)) ∧ s' ≤ s + 1 ∧ SB g w q n f sb s' W'

set_option maxHeartbeats 16000000 in
set_option maxRecDepth 100000 in
theorem order2_any (g : Tg) (hk : OkT g.T) (w : World) (hg : g.In w) (q n cap : Nat) (hn : n ≤ 110075314176) (f : Nat → Rt) (sb s : Nat) (hs : s ≤ 1000) (W : World) (hS : SB g w q n f sb s W) (a b : Nat) (hb : b < n) (ha : a < n) :
    Calls Try.prog 98 #[.slice (some ⟨q, 0, none⟩) n cap, .int .i64 (a : Int), .int .i64 (b : Int), .pointer (some ⟨sb, 0, none⟩), .func (.func 16) #[.agg (Sv g).toArray] #[]] W (OQ g w q n f sb s a b) := by
  have HC := Lib.hid (fun W h => cmp_any g hk w hg q n f W h b a hb ha)
  have S0 := Lib.hid hS
  have ca := hS.r.c a ha
  have cb := hS.r.c b hb
  change W.cell? ⟨q, a, none⟩ = some (.slice (some ⟨(f a).b, (f a).o, none⟩) (f a).xs.length (f a).k) at ca
  change W.cell? ⟨q, b, none⟩ = some (.slice (some ⟨(f b).b, (f b).o, none⟩) (f b).xs.length (f b).k) at cb
  have HC2 := Lib.hid (fun d os => HC.out (Go.Sort.grow (redrawn W d) os) (S0.out.r.keep (below_regrown W d os)))
  clear hS hg HC
  generalize Value.agg (Sv g).toArray = S at *
  obtain ⟨c, hc⟩ : ∃ c, cmpR g.T (f b).xs (f a).xs = c := ⟨_, rfl⟩
  rw [hc] at HC2
  clear hc
  have ha' : (a : Int) < (n : Int) := by omega
  have hb' : (b : Int) < (n : Int) := by omega
  have r0 := fun p : Regrown => cell_regrown ca p.d p.os
  have r1 := fun p : Regrown => cell_regrown cb p.d p.os
  go_enter Try.func98, Try.ntmps98
  go_upto_region 1 with fail
  refine wp_region_quiet_below (by kernel_rfl) (by kernel_rfl) ?_
  repeat (go_big_quiet_step (with_reducible exact Calls.regrown_of (HC2.out _ _)))
  refine wpQuiet_nil ?_
  rintro W6 ⟨pr, hpr⟩
  have B6 : Below W.heap.size W W6 := by rw [hpr]; exact below_regrown W pr.d pr.os
  have S6 := Lib.hid (S0.out.keep B6)
  clear hpr r0 r1 ca cb HC2 B6 S0
  by_cases hc0 : c < 0
  · have kc := S6.out.c
    have kz := S6.out.z
    have hw1 : wrap64 ((s : Int) + 1) = (s : Int) + 1 := by unfold wrap64; omega
    have S7 := Lib.hid (S6.out.bump (s + 1))
    have e1 : ((s + 1 : Nat) : Int) = (s : Int) + 1 := by omega
    rw [e1] at S7
    clear S6
    go_wp2
    go_ret2
    exact ⟨b, a, s + 1, rfl, .inr ⟨rfl, rfl⟩, Nat.le_refl _, S7.out⟩
  · go_wp2
    go_ret2
    exact ⟨a, b, s, rfl, .inl ⟨rfl, rfl⟩, by omega, S6.out⟩

def MQ (g : Tg) (w : World) (q n : Nat) (f : Nat → Rt) (sb s lo hi : Nat) (e : Ending) (W' : World) : Prop :=
  ∃ x s' : Nat, e = .returned (.int .i64 (x : Int)) ∧ (lo ≤ x ∧ x < hi) ∧ s' ≤ s + 3 ∧ SB g w q n f sb s' W'

set_option maxHeartbeats 16000000 in
set_option maxRecDepth 100000 in
theorem median_any (g : Tg) (hk : OkT g.T) (w : World) (hg : g.In w) (q n cap : Nat) (hn : n ≤ 110075314176) (f : Nat → Rt) (sb s : Nat) (hs : s ≤ 900) (W : World) (hS : SB g w q n f sb s W) (lo hi : Nat) (hhi : hi ≤ n) (a b c : Nat) (hb : lo ≤ b ∧ b < hi) (ha : lo ≤ a ∧ a < hi) (hc : lo ≤ c ∧ c < hi) :
    Calls Try.prog 96 #[.slice (some ⟨q, 0, none⟩) n cap, .int .i64 (a : Int), .int .i64 (b : Int), .int .i64 (c : Int), .pointer (some ⟨sb, 0, none⟩), .func (.func 16) #[.agg (Sv g).toArray] #[]] W (MQ g w q n f sb s lo hi) := by
  have HO := Lib.hid (fun s (hs : s ≤ 1000) W hS a b hb ha => order2_any g hk w hg q n cap hn f sb s hs W hS a b hb ha)
  have S0 := Lib.hid hS
  clear hS hg
  generalize Value.agg (Sv g).toArray = S at *
  go_enter Try.func96, Try.ntmps96
  go_wp2_with fail
  refine (HO.out s (by omega) W S0.out a b (by omega) (by omega)).mono ?_
  rintro e W1 ⟨x1, y1, s1, rfl, h1, hs1, S1⟩
  have S1' := Lib.hid S1
  have hx1 : (lo ≤ x1 ∧ x1 < hi) ∧ (lo ≤ y1 ∧ y1 < hi) := by omega
  clear S1 h1 S0
  go_wp2_with fail
  refine (HO.out s1 (by omega) W1 S1'.out y1 c (by omega) (by omega)).mono ?_
  rintro e W2 ⟨x2, y2, s2, rfl, h2, hs2, S2⟩
  have S2' := Lib.hid S2
  have hx2 : (lo ≤ x2 ∧ x2 < hi) ∧ (lo ≤ y2 ∧ y2 < hi) := by omega
  clear S2 h2 S1'
  go_wp2_with fail
  refine (HO.out s2 (by omega) W2 S2'.out x1 x2 (by omega) (by omega)).mono ?_
  rintro e W3 ⟨x3, y3, s3, rfl, h3, hs3, S3⟩
  have S3' := Lib.hid S3
  have hx3 : lo ≤ y3 ∧ y3 < hi := by omega
  clear S3 h3 S2'
  go_wp2
  go_ret
  exact ⟨y3, s3, rfl, hx3, by omega, S3'.out⟩

set_option maxHeartbeats 16000000 in
set_option maxRecDepth 100000 in
theorem medianAdj_any (g : Tg) (hk : OkT g.T) (w : World) (hg : g.In w) (q n cap : Nat) (hn : n ≤ 110075314176) (f : Nat → Rt) (sb s : Nat) (hs : s ≤ 900) (W : World) (hS : SB g w q n f sb s W) (lo hi : Nat) (hhi : hi ≤ n) (a : Nat) (h1 : lo + 1 ≤ a) (ha : a + 1 < hi) :
    Calls Try.prog 95 #[.slice (some ⟨q, 0, none⟩) n cap, .int .i64 (a : Int), .pointer (some ⟨sb, 0, none⟩), .func (.func 16) #[.agg (Sv g).toArray] #[]] W (MQ g w q n f sb s lo hi) := by
  have HO := Lib.hid (median_any g hk w hg q n cap hn f sb s hs W hS lo hi hhi (a - 1) a (a + 1) (by omega) (by omega) (by omega))
  clear hS hg
  generalize Value.agg (Sv g).toArray = S at *
  have e1 : ((a - 1 : Nat) : Int) = (a : Int) - 1 := by omega
  have e2 : ((a + 1 : Nat) : Int) = (a : Int) + 1 := by omega
  have hw1 : wrap64 ((a : Int) - 1) = (a : Int) - 1 := by unfold wrap64; omega
  have hw2 : wrap64 ((a : Int) + 1) = (a : Int) + 1 := by unfold wrap64; omega
  rw [e1, e2] at HO
  clear e1 e2
  go_enter Try.func95, Try.ntmps95
  go_wp2_with fail
  refine HO.out.mono ?_
  rintro e W1 ⟨x, s', rfl, h1', h2', h3'⟩
  have HP := Lib.hid (show MQ g w q n f sb s lo hi (.returned (.int .i64 (x : Int))) W1 from ⟨x, s', rfl, h1', h2', h3'⟩)
  clear h1' h2' h3' HO
  go_wp2
  go_ret
  exact HP.out

end Go.Proofs.Ytjhpbemnklpefaa
