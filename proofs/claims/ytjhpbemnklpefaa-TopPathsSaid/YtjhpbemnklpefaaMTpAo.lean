/-
  Sorting the routes: pdqsort whole; SortFunc, SortedFunc. No conditions.
-/
import Derived.Test.YtjhpbemnklpefaaMTpAn
namespace Go.Proofs.Ytjhpbemnklpefaa
open Go.RowKit Go.Lib Go.Sort Plain

theorem pdq_any (g : Tg) (w : World) (S : Value) (hx : SX g w S) (q n cap : Nat) (hn : n ≤ 110075314176) (f : Nat → Rt) : ∀ N a b, b - a ≤ N → a ≤ b → b ≤ n → ∀ k : Nat, k ≤ 64 → ∀ W, SS g w q n f W →
    Calls Try.prog 61 #[.slice (some ⟨q, 0, none⟩) n cap, .int .i64 (a : Int), .int .i64 (b : Int), .int .i64 (k : Int), .func (.func 16) #[S] #[]] W (SP g w q n f) := by
  intro N
  induction N using Nat.strongRecOn with
  | ind N ih =>
    intro a b hN hab hb k hk W hS
    exact pdq_step g w S hx q n cap hn f W hS N (fun a b h hab hb k hk W hS => ih (b - a) h a b (Nat.le_refl _) hab hb k hk W hS) a b k hab hb hN hk

def NilQ (w : World) (e : Ending) (w' : World) : Prop := e = .returned (.tuple #[]) ∧ w' = w
set_option maxHeartbeats 4000000 in
set_option maxRecDepth 100000 in
theorem insertion_nil (F : Value) (w : World) : Calls Try.prog 81 #[.slice none 0 0, .int .i64 0, .int .i64 0, F] w (NilQ w) := by
  go_enter Try.func81, Try.ntmps81
  go_wp2
  go_loopw [8] (fun p wr => p = .int .i64 1 ∧ wr = w) (fun _ _ => 0)
  case atStart => exact ⟨rfl, rfl⟩
  case round =>
    obtain ⟨rfl, rfl⟩ := hrel
    go_wp2
    go_end0
    exact ⟨rfl, rfl⟩

set_option maxHeartbeats 4000000 in
set_option maxRecDepth 100000 in
theorem pdq_nil (F : Value) (k : Int) (w : World) : Calls Try.prog 61 #[.slice none 0 0, .int .i64 0, .int .i64 0, .int .i64 k, F] w (NilQ w) := by
  have HI := Lib.hid (insertion_nil F)
  go_enter Try.func61, Try.ntmps61
  go_wp2
  go_loopw [1, 2, 3, 10, 11] (fun p1 p2 p3 p4 p5 wr => p1 = .int .i64 0 ∧ p2 = .int .i64 0 ∧ wr = w) (fun _ _ _ _ _ _ => 0)
  case atStart => exact ⟨rfl, rfl, rfl⟩
  case round =>
    obtain ⟨rfl, rfl, rfl⟩ := hrel
    go_wp2_with fail
    refine (HI.out _).mono ?_
    rintro e w' ⟨rfl, rfl⟩
    go_wp2
    go_end0
    exact ⟨rfl, rfl⟩

theorem bits64 {n : Nat} (hn : n ≤ 110075314176) : bitsLen n ≤ 64 := (bitsLen_le_iff n 64).2 (by omega)
theorem wrapU2 {n : Nat} (hn : n ≤ 110075314176) : IntKind.u64.wrap (n : Int) = (n : Int) := by
  rw [IntKind.wrap_u64]
  omega
set_option maxHeartbeats 4000000 in
set_option maxRecDepth 100000 in
theorem sortFunc_any (g : Tg) (w : World) (S : Value) (hx : SX g w S) (q n cap : Nat) (hn : n ≤ 110075314176) (f : Nat → Rt) (W : World) (hS : SS g w q n f W) :
    Calls Try.prog 31 #[.slice (some ⟨q, 0, none⟩) n cap, .func (.func 16) #[S] #[]] W (SP g w q n f) := by
  have HP := Lib.hid (pdq_any g w S hx q n cap hn f n 0 n (by omega) (Nat.zero_le _) (Nat.le_refl _) (bitsLen n) (bits64 hn) W hS)
  have HL := Lib.hid (len_any n (by omega) W)
  have wu := wrapU2 hn
  clear hS hx
  go_enter Try.func31, Try.ntmps31
  go_wp2_with fail
  refine HL.out.mono ?_
  rintro e w' ⟨rfl, rfl⟩
  go_wp2_with fail
  refine HP.out.mono ?_
  rintro e W2 ⟨rfl, S2⟩
  have S2 := Lib.hid S2
  clear HP HL
  go_wp2
  go_end0
  exact ⟨rfl, S2.out⟩

set_option maxHeartbeats 4000000 in
set_option maxRecDepth 100000 in
theorem sortFunc_nil (F : Value) (W : World) : Calls Try.prog 31 #[.slice none 0 0, F] W (NilQ W) := by
  have HL := Lib.hid (len_any 0 (by omega) W)
  have HP := Lib.hid (pdq_nil F (bitsLen 0 : Nat) W)
  go_enter Try.func31, Try.ntmps31
  go_wp2_with fail
  refine HL.out.mono ?_
  rintro e w' ⟨rfl, rfl⟩
  go_wp2_with fail
  refine HP.out.mono ?_
  rintro e W2 ⟨rfl, rfl⟩
  go_wp2
  go_end0
  exact ⟨rfl, rfl⟩

/-- All routes from a to b, in whatever order, in a row. -/
def AllR (g : Tg) (a b : Nat) (v : Value) (W : World) : Prop :=
  (v = .slice none 0 0 ∧ routesP g.T a b = []) ∨ ∃ (q n cap : Nat) (f : Nat → Rt), v = .slice (some ⟨q, 0, none⟩) n cap ∧ n ≤ 110075314176 ∧ (∀ i, i < n → W.cell? ⟨q, i, none⟩ = some (f i).v ∧ (f i).In W ∧ (f i).xs ∈ routesP g.T a b) ∧ ∀ xs ∈ routesP g.T a b, ∃ i, i < n ∧ (f i).xs = xs
theorem AllR.keep {g : Tg} {a b : Nat} {v : Value} {W W' : World} (h : AllR g a b v W) (hb : Below W.heap.size W W') : AllR g a b v W' := by
  rcases h with h | ⟨q, n, cap, f, h1, h2, h3, h4⟩
  · exact .inl h
  · exact .inr ⟨q, n, cap, f, h1, h2, fun i hi => ⟨below_keep hb (h3 i hi).1, (h3 i hi).2.1.keep hb, (h3 i hi).2.2⟩, h4⟩
def SfQ (g : Tg) (a b : Nat) (w : World) (e : Ending) (w' : World) : Prop := ∃ v, e = .returned v ∧ AllR g a b v w' ∧ Below w.heap.size w w'

theorem rt0 {rs : List Rt} {i : Nat} (h : i < rs.length) : rs.getD i ⟨0, 0, 0, []⟩ ∈ rs := by
  simp [List.getD_eq_getElem?_getD, h]
/-- What has been gathered, as the sort takes it. -/
theorem gathered {g : Tg} (hk : OkT g.T) {a b : Nat} {w W : World} {q cap : Nat} {rs : List Rt} (hx : rs.map Rt.xs = routesP g.T a b) (ho : W.ownsRow w.heap.size 37 1 (.slice (some ⟨q, 0, none⟩) rs.length cap) rs.length (rs.map Rt.v))
    (hr : ∀ r ∈ rs, RtT w.heap.size r W) (hb : Below w.heap.size w W) : SS g w q rs.length (fun i => rs.getD i ⟨0, 0, 0, []⟩) W := by
  obtain ⟨hl, h | ⟨g', cap', cur, hv, hge, hh, hnc, _, hsz, htk⟩⟩ := ho
  · exact absurd h.1 (by simp)
  · cases hv
    refine ⟨_, Same.refl _ _, ⟨fun i hi => ?_, fun x => by simp [World.frozen?, hh], fun i hi => ⟨(hr _ (rt0 hi)).i, Ty.ne (hr _ (rt0 hi)).t ⟨_, hh⟩ (by decide), ?_⟩, hb, (Array.getElem?_eq_some_iff.1 hh).1, hge⟩⟩
    · have h1 : (cur.toList.take (rs.length * 1))[i]? = some (rs.getD i ⟨0, 0, 0, []⟩).v := by
        rw [htk]
        simp [List.getD_eq_getElem?_getD, hi]
      rw [List.getElem?_take_of_lt (by omega)] at h1
      simp only [World.cell?, hh]
      simpa using h1
    · have : (rs.getD i ⟨0, 0, 0, []⟩).xs ∈ routesP g.T a b := by
        rw [← hx]
        exact List.mem_map.2 ⟨_, rt0 hi, rfl⟩
      exact (routesP_pw this).costOk

set_option maxHeartbeats 4000000 in
set_option maxRecDepth 100000 in
theorem sortedFunc_any (g : Tg) (hk : OkT g.T) (w : World) (hg : g.In w) (a b : Nat) (lb : Array Value) (hs : SeqRt g a b (24 ^ 8) 32 lb w) :
    Calls Try.prog 14 #[.func (.func 32) #[] lb, .func (.func 16) #[.agg (Sv g).toArray] #[]] w (SfQ g a b w) := by
  have HC := Lib.hid (collect_any g a b (24 ^ 8) (by decide) lb w hs)
  obtain ⟨S, hSv⟩ : ∃ S, S = Value.agg (Sv g).toArray := ⟨_, rfl⟩
  have HX := Lib.hid (show SX g w S from ⟨hk, hg, hSv⟩)
  have HK := Lib.hid hk
  rw [← hSv]
  clear hSv hg hs hk
  go_enter Try.func14, Try.ntmps14
  go_wp2_with fail
  refine HC.out.mono ?_
  rintro e w1 ⟨v, rs, rfl, h1, h2, h3, h4⟩
  clear HC
  have hlen : rs.length ≤ 110075314176 := by
    have := exts_len HK.out (a := a) (b := b) 8 [] a (fun _ => false)
    have e2 : (rs.map Rt.xs).length = (routesP g.T a b).length := by rw [h1]
    rw [List.length_map] at e2
    rw [e2]
    exact this
  by_cases h0 : rs.length = 0
  · have hv : v = .slice none 0 0 ∨ ∃ q cap, v = .slice (some ⟨q, 0, none⟩) 0 cap := by
      rcases h2.2 with h | ⟨q, cap, cur, hv, _⟩
      · exact .inl h.1
      · rw [h0] at hv
        exact .inr ⟨q, cap, hv⟩
    have hr0 : routesP g.T a b = [] := by
      rw [← h1, List.length_eq_zero_iff.1 h0]
      rfl
    rcases hv with rfl | ⟨q, cap, rfl⟩
    · have HP := Lib.hid (show AllR g a b (.slice none 0 0) w1 ∧ Below w.heap.size w w1 from ⟨.inl ⟨rfl, hr0⟩, h4⟩)
      have HS := Lib.hid (sortFunc_nil (.func (.func 16) #[S] #[]) w1)
      clear h1 h2 h3 h4 hr0 hlen h0
      go_wp2_with fail
      refine HS.out.mono ?_
      rintro e w2 ⟨rfl, rfl⟩
      go_wp2
      go_ret
      exact ⟨_, rfl, HP.out⟩
    · have h2' : w1.ownsRow w.heap.size 37 1 (.slice (some ⟨q, 0, none⟩) rs.length cap) rs.length (rs.map Rt.v) := by
        rw [h0] at h2 ⊢
        exact h2
      have hS := gathered HK.out h1 h2' h3 h4
      have HS := Lib.hid (sortFunc_any g w S HX.out q rs.length cap hlen _ w1 hS)
      rw [h0] at HS
      have HR0 := Lib.hid hr0
      clear h1 h2 h2' h3 h4 hlen h0 hS hr0
      go_wp2_with fail
      refine HS.out.mono ?_
      rintro e w2 ⟨rfl, f', hsame, S2⟩
      have HP := Lib.hid (show AllR g a b (.slice (some ⟨q, 0, none⟩) 0 cap) w2 ∧ Below w.heap.size w w2 from ⟨.inr ⟨q, 0, cap, f', rfl, by omega, fun i hi => absurd hi (by omega), fun xs hxs => by rw [HR0.out] at hxs; cases hxs⟩, S2.b⟩)
      clear hsame S2 HS
      go_wp2
      go_ret
      exact ⟨_, rfl, HP.out⟩
  · obtain ⟨q, cap, rfl⟩ := own_form15 h2 (by omega)
    have HS := Lib.hid (sortFunc_any g w S HX.out q rs.length cap hlen _ w1 (gathered HK.out h1 h2 h3 h4))
    have HM := Lib.hid (And.intro h1 hlen)
    clear h1 h2 h3 h4 hlen h0
    go_wp2_with fail
    refine HS.out.mono ?_
    rintro e w2 ⟨rfl, f', hsame, S2⟩
    have HP := Lib.hid (show AllR g a b (.slice (some ⟨q, 0, none⟩) rs.length cap) w2 ∧ Below w.heap.size w w2 from ⟨.inr ⟨q, rs.length, cap, f', rfl, HM.out.2, fun i hi => ⟨S2.c i hi, (S2.r i hi).1, by
      obtain ⟨j, hj, e⟩ := hsame.1 i hi
      rw [e, ← HM.out.1]
      exact List.mem_map.2 ⟨_, rt0 hj, rfl⟩⟩, fun xs hxs => by
      rw [← HM.out.1] at hxs
      obtain ⟨r, hr, rfl⟩ := List.mem_map.1 hxs
      obtain ⟨j, hj, e⟩ := List.mem_iff_getElem.1 hr
      obtain ⟨i, hi, e2⟩ := hsame.2 j hj
      refine ⟨i, hi, ?_⟩
      rw [← e2, ← e]
      simp [List.getD_eq_getElem?_getD, hj]⟩, S2.b⟩)
    clear hsame S2 HS
    go_wp2
    go_ret
    exact ⟨_, rfl, HP.out⟩

end Go.Proofs.Ytjhpbemnklpefaa
