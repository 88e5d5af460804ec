/-
  (path.search).routes and the iterator that it hands back. No conditions.
-/
import Derived.Laws.EntriesVeiled
import Derived.Test.YtjhpbemnklpefaaMTpF
namespace Go.Proofs.Ytjhpbemnklpefaa
open Go.RowKit Go.Lib Go.Shelf Plain
attribute [local go_sem] Oper.semAt_some

set_option maxHeartbeats 4000000 in
set_option maxRecDepth 100000 in
theorem routes_any (g : Tg) (a b : Nat) (w : World) : Calls Try.prog 15 #[.agg (Sv g).toArray, .int .i64 (a : Int), .int .i64 (b : Int)] w fun e w' =>
    e = .returned (.func (.func 32) #[] #[.pointer (some ⟨w.heap.size + 1 + 1, 0, none⟩), .pointer (some ⟨w.heap.size + 1, 0, none⟩), .pointer (some ⟨w.heap.size, 0, none⟩)]) ∧
    w' = ((w.alloc (.cells (Sv g).toArray 55)).alloc (.cells #[.int .i64 (a : Int)] 3)).alloc (.cells #[.int .i64 (b : Int)] 3) := by
  generalize (Sv g).toArray = A
  go_enter Try.func15, Try.ntmps15
  go_wp2
  go_ret
  exact ⟨rfl, rfl⟩

/-- What the iterator finds. -/
structure R0 (g : Tg) (a b bt bf bs : Nat) (w : World) : Prop where
  t : w.cell? ⟨bt, 0, none⟩ = some (.int .i64 (b : Int))
  f : w.cell? ⟨bf, 0, none⟩ = some (.int .i64 (a : Int))
  s : SAt g bs w
theorem R0.keep {g : Tg} {a b bt bf bs : Nat} {w W : World} (h : R0 g a b bt bf bs w) (hb : Below w.heap.size w W) : R0 g a b bt bf bs W := ⟨below_keep hb h.t, below_keep hb h.f, h.s.keep hb⟩

set_option maxHeartbeats 8000000 in
set_option maxRecDepth 100000 in
theorem routes1_any (g : Tg) (hk : OkT g.T) (a b : Nat) (ha : a < g.T.n) (hab : a ≠ b) (w : World) (l bt bf bs : Nat) (h0 : R0 g a b bt bf bs w) (J : List Rt → World → Prop) (hJ : AbI w J) (N : Nat) (hN : (routesP g.T a b).length ≤ N)
    (hY : ∀ m pre r W, J pre W → RtT w.heap.size r W → pre.length < N → YieldAt Fence.wide m Try.prog l #[r.v] W (RdQ w J pre r W)) (W : World) (hW : Below w.heap.size w W) (h1 : J [] W) :
    Calls Try.prog 32 #[.func (.yield l) #[] #[], .pointer (some ⟨bt, 0, none⟩), .pointer (some ⟨bf, 0, none⟩), .pointer (some ⟨bs, 0, none⟩)] W fun e W' => (∃ x, e = .returned x) ∧ ∃ rs : List Rt, rs.map Rt.xs = routesP g.T a b ∧ J rs W' := by
  obtain ⟨v, hv⟩ : ∃ v : Vb, v = ⟨l, bt, bf, bs, W.heap.size, W.heap.size + 1, W.heap.size + 1 + 1⟩ := ⟨_, rfl⟩
  have HX := Lib.hid (ext_any g hk a b w v (by subst hv; exact ⟨h0.t, h0.f, h0.s⟩) J hJ N (by subst hv; exact hY))
  have HJ := Lib.hid hJ
  have HJ0 := Lib.hid h1
  have HW := Lib.hid hW
  have hz := hW.size
  have kf := below_keep hW h0.f
  have lf := World.block_lt_of_cell? _ _ kf
  clear hY hJ h1 hW h0
  go_enter Try.func32, Try.ntmps32
  go_upto_region 4 with fail
  refine wp_world ?_
  intro V hVw
  have hcap : v.cap.toArray = #[.pointer (some ⟨bt, 0, none⟩), .pointer (some ⟨W.heap.size, 0, none⟩), .pointer (some ⟨bf, 0, none⟩), .pointer (some ⟨bs, 0, none⟩), .pointer (some ⟨W.heap.size + 1, 0, none⟩), .pointer (some ⟨W.heap.size + 1 + 1, 0, none⟩)] := by subst hv; rfl
  obtain ⟨V3, hV3⟩ : ∃ V3, V3 = (W.alloc (.cells #[.func (.yield l) #[] #[]] 70)).alloc (.cells z12.toArray 58) := ⟨_, rfl⟩
  have hb3 : Below W.heap.size W V3 := by subst hV3; exact below_alloc (below_alloc (Below.refl _ _) _) _
  have hz3 : V3.heap.size = W.heap.size + 1 + 1 := by subst hV3; simp
  have hV' : V = V3.alloc (.cells #[.func (.func 33) #[] v.cap.toArray] 85) := by rw [hVw, hV3, hcap]; rfl
  have hbV : Below W.heap.size W V := by rw [hV']; exact below_alloc hb3 _
  have h3n : V3.heap[W.heap.size + 1]? = some (.cells z12.toArray 58 (0, 0)) := by
    subst hV3
    have := World.alloc_heap_new (W.alloc (.cells #[.func (.yield l) #[] #[]] 70)) (.cells z12.toArray 58)
    simpa using this
  have h3y : V3.heap[W.heap.size]? = some (.cells #[.func (.yield l) #[] #[]] 70 (0, 0)) := by
    subst hV3
    rw [Below.heap_alloc _ _ _ (by simp)]
    exact World.alloc_heap_new W (.cells #[.func (.yield l) #[] #[]] 70)
  have far : ∀ k, k < W.heap.size + 1 + 1 → V.heap[k]? = V3.heap[k]? := fun k hlt => by rw [hV']; exact Below.heap_alloc _ _ _ (by omega)
  have hE : ES w v (fun _ => false) V := by
    have hye : v.y = W.heap.size := by subst hv; rfl
    have hne : v.n = W.heap.size + 1 := by subst hv; rfl
    have hee : v.e = W.heap.size + 1 + 1 := by subst hv; rfl
    have hle : v.l = l := by subst hv; rfl
    refine ⟨below_step HW.out hbV, ?_, ?_, ⟨z12.toArray, ?_⟩, fun m hm => ?_, by omega⟩
    · rw [hye, hle]
      exact (far _ (by omega)).trans h3y
    · rw [hee, hV', ← hz3]
      exact World.alloc_heap_new _ _
    · rw [hne]
      exact (far _ (by omega)).trans h3n
    · rw [hne]
      have hc : V3.cell? ⟨W.heap.size + 1, m, none⟩ = some (.bool false) := by
        have := z12_at m hm
        simp [World.cell?, h3n, this]
      exact (World.cell?_of_block (a := ⟨W.heap.size + 1, m, none⟩) (far _ (by show W.heap.size + 1 < W.heap.size + 1 + 1; omega))).trans hc
  have hJV : J [] V := HJ.out.keep HJ0.out hbV
  have HE := Lib.hid hE
  have HJV := Lib.hid hJV
  have kfV : V.cell? ⟨bf, 0, none⟩ = some (.int .i64 (a : Int)) := below_keep hbV kf
  have keV : V.cell? ⟨W.heap.size + 1 + 1, 0, none⟩ = some (.func (.func 33) #[] #[.pointer (some ⟨bt, 0, none⟩), .pointer (some ⟨W.heap.size, 0, none⟩), .pointer (some ⟨bf, 0, none⟩), .pointer (some ⟨bs, 0, none⟩), .pointer (some ⟨W.heap.size + 1, 0, none⟩), .pointer (some ⟨W.heap.size + 1 + 1, 0, none⟩)]) := by
    have := hE.ce
    rw [hcap] at this
    subst hv
    exact this
  have HC := Lib.hid (HX.out 8 none a (fun _ => false) [] V rfl ha rfl (fun h => absurd h hab) (fun r e => by cases e) hE hJV (by show ([] : List Rt).length + (routesP g.T a b).length ≤ N; simpa using hN))
  have hvv : hV none = Value.slice none 0 0 := rfl
  rw [hvv] at HC
  have HC2 : Hid (Calls Try.prog 33 #[.slice none 0 0, .int .i64 (a : Int), .pointer (some ⟨bt, 0, none⟩), .pointer (some ⟨W.heap.size, 0, none⟩), .pointer (some ⟨bf, 0, none⟩), .pointer (some ⟨bs, 0, none⟩), .pointer (some ⟨W.heap.size + 1, 0, none⟩), .pointer (some ⟨W.heap.size + 1 + 1, 0, none⟩)] V (ExtQ g a b w v J 8 none a (fun _ => false) [] V)) := by subst hv; exact HC
  clear far hVw hV' hV3 hb3 hz3 hbV h3n h3y hE hJV HX HC hcap hvv kf lf
  go_wp2_with fail
  refine HC2.out.mono ?_
  rintro e W6 ⟨rfl, rs, hm6, hJ6, hE6, hK6⟩
  have HP := Lib.hid (show ∃ rs : List Rt, rs.map Rt.xs = routesP g.T a b ∧ J rs W6 from ⟨rs, hm6, hJ6⟩)
  clear hm6 hJ6 hE6 hK6 HC2 HE HJV
  go_wp2
  go_end0
  exact ⟨⟨_, rfl⟩, HP.out⟩

end Go.Proofs.Ytjhpbemnklpefaa
