/-
  (tree).last: the last sync that is not lost. No conditions.
-/
import Derived.WalkMore
import Derived.Test.YtkencmijghigiaaGreatMBase
import Derived.Test.YtkencmijghigiaaGreatMNets
import Derived.Test.YtkencmijghigiaaGreatMOps
namespace Go.Proofs.YtkencmijghigiaaGreat
open Go.RowKit Go.Lib Go.Shelf Plain
attribute [local go_sem] Oper.semAt_some

/-- The losses lie in the world. -/
def LsIn (pa : Option Addr) (ls : List (Int × Int)) (w : World) : Prop := ∀ x (h : x < ls.length), ∃ b o, pa = some ⟨b, o, none⟩ ∧ w.cell? ⟨b, o + x * 2, none⟩ = some (.int .i64 ls[x].1) ∧ w.cell? ⟨b, o + x * 2 + 1, none⟩ = some (.int .i64 ls[x].2)
theorem LsIn.keep {pa : Option Addr} {ls : List (Int × Int)} {w W : World} (h : LsIn pa ls w) (hb : Below w.heap.size w W) : LsIn pa ls W := fun x hx => by
  obtain ⟨b, o, h1, h2, h3⟩ := h x hx
  exact ⟨b, o, h1, below_keep hb h2, below_keep hb h3⟩

def lostB (n : Nt) (par : Fin n.m → Fin n.m) (ls : List (Int × Int)) (i : Fin n.m) (k : Int) : Bool := (ups par i).any (fun x => decide ((k, (x.val : Int)) ∈ ls))
/-- The greatest number from k down that is not lost; -1: none. -/
def lstK (p : Int → Bool) : Nat → Int
  | 0 => if p 0 then -1 else 0
  | k + 1 => if p ((k : Int) + 1) then lstK p k else (k : Int) + 1
def lastV (n : Nt) (par : Fin n.m → Fin n.m) (ls : List (Int × Int)) (i : Fin n.m) (t : Int) : Int :=
  if t < firstV n par i then -1 else lstK (lostB n par ls i) ((t - firstV n par i) / n.iv).toNat
theorem lstK_no {p : Int → Bool} {k : Int} (h0 : 0 ≤ k) (h : p k = false) : lstK p k.toNat = k := by
  obtain ⟨m, rfl⟩ : ∃ m : Nat, k = (m : Int) := ⟨k.toNat, by omega⟩
  cases m with
  | zero =>
    have h' : p 0 = false := h
    simp [lstK, h']
  | succ m =>
    have h' : p ((m : Int) + 1) = false := by rw [← h]; congr 1
    simp [lstK, h']
theorem lstK_yes {p : Int → Bool} {k : Int} (h0 : 0 ≤ k) (h : p k = true) : lstK p k.toNat = if k - 1 < 0 then -1 else lstK p (k - 1).toNat := by
  obtain ⟨m, rfl⟩ : ∃ m : Nat, k = (m : Int) := ⟨k.toNat, by omega⟩
  cases m with
  | zero =>
    have h' : p 0 = true := h
    simp [lstK, h']
  | succ m =>
    have h' : p ((m : Int) + 1) = true := by rw [← h]; congr 1
    have e : ((m + 1 : Nat) : Int) - 1 = (m : Int) := by omega
    rw [e, if_neg (by omega)]
    simp [lstK, h']
def LastCase (n : Nt) (par : Fin n.m → Fin n.m) (ls : List (Int × Int)) (i : Fin n.m) (t r e : Int) : Prop :=
  (lastV n par ls i t < 0 ∧ r = 0 ∧ e = 4) ∨ (0 ≤ lastV n par ls i t ∧ r = lastV n par ls i t ∧ e = 0)

theorem typM : (Tryz.prog).underlying 102 = some (.map 55 4) := Tryz.underlying102

def ptrOf : Value → Addr
  | .pointer (some p) => p
  | _ => ⟨0, 0, none⟩
def meas14 (a : Act) (W : World) : Nat := (RowKit.intOf ((W.cell? (ptrOf (a.tmps.getD 14 undef))).getD undef) + 1).toNat

set_option maxHeartbeats 8000000 in
set_option maxRecDepth 100000 in
theorem last_any (n : Nt) (hb : n.Bd) (par : Fin n.m → Fin n.m) (hp : n.Par par) (i : Fin n.m) (pa : Option Addr) (cap : Nat) (ls : List (Int × Int)) (hw : ∀ y ∈ ls, WfL y) (h256 : ls.length ≤ 256) (t : Int) (t0 : 0 ≤ t) (t1 : t ≤ 1099511627776)
    (w : World) (hn : n.In w) (hl : LsIn pa ls w) (r e : Int) (h : LastCase n par ls i t r e) :
    Calls Tryz.prog 35 #[.agg n.vs.toArray, .slice pa ls.length cap, .int .i64 (i.val : Int), .int .i64 t] w fun y w' => y = .returned (.tuple #[.int .i64 r, .int .i64 e]) ∧ Below w.heap.size w w' := by
  have ha := Lib.hid (show ∀ w, (isAgg 67).run Tryz.prog w = .ok true w from fun w => by kernel_rfl)
  have hs := Lib.hid (show ∀ w, (sizeOf 67).run Tryz.prog w = .ok n.vs.length w from fun w => by kernel_rfl)
  have hv0 := hb.iv0
  have hv1 := hb.iv1
  obtain ⟨f0, f1⟩ := first_bd hb hp i
  have HF := Lib.hid (fun W (hW : n.In W) => first_any n hb par hp i W hW)
  have HN := Lib.hid hn
  have HL := Lib.hid hl
  clear hn hl
  have hmm := @run_makeMap Tryz.prog
  refine (callsIn_wide (n := 4)).1 ?_
  refine callsIn_of_wp_marks Tryz.func35 rfl trivial ?_ rfl
  simp only [Tryz.ntmps35, List.size_toArray, List.length_cons, List.length_nil, Nat.reduceAdd, Nat.reduceSub, Array.replicate_succ, Array.replicate_zero, List.push_toArray, List.append_toArray, List.nil_append, List.cons_append]
  refine wpIn_wide.2 ?_
  rw [n.lit]
  go_wp2
  go_step3
  go_wp2_with ((with_reducible refine at_load 67 (.tmp 4) ?_); refine wpList_load_whole rfl (.tmp 4) 67 rfl w.heap.size 0 n.vs rfl ha.out hs.out (holds_alloc w n.vs 67 rfl) ?_; simp only [Act.put, List.setIfInBounds_toArray, List.set_cons_succ, List.set_cons_zero])
  refine (HF.out _ (HN.out.keep (below_alloc (Below.refl _ _) _))).mono ?_
  rintro y w1 ⟨rfl, hb1⟩
  have M1 := Lib.hid ((holds_alloc w n.vs 67 rfl).keep hb1)
  have H1 := Lib.hid (below_step (below_alloc (Below.refl _ _) _) hb1)
  have m6 : w1.cell? ⟨w.heap.size, 6, none⟩ = some (.int .i64 n.iv) := M1.out 6 _ rfl
  clear hb1 HF
  by_cases hlt : t < firstV n par i
  · have hr : r = 0 ∧ e = 4 := by
      rcases h with ⟨_, h2⟩ | ⟨h1, _⟩
      · exact h2
      · unfold lastV at h1; rw [if_pos hlt] at h1; omega
    obtain ⟨rfl, rfl⟩ := hr
    clear h
    generalize firstV n par i = f at *
    go_wp2
    rw [Exit.noGoto_ret]
    exact ⟨_, results_tmp2 rfl _ _ _, rfl, H1.out⟩
  · have hlt' : ¬ t < firstV n par i := hlt
    go_wp2
    have M1' := M1
    go_loopw [25] (fun p wr => ∃ k : Nat, p = .int .i64 (k : Int) ∧ k ≤ ls.length ∧ wr.ownsMap Tryz.prog 55 (plainElem (H := Unit) Tryz.prog 4) w1.heap.size k (mapL (ls.take k)) ∧ wr.cell? ⟨w1.heap.size + 1, 0, none⟩ = some (.map (some w1.heap.size)) ∧ Below w1.heap.size w1 wr)
      (fun p _ => ls.length - (RowKit.intOf p).toNat)
    case atStart =>
      refine ⟨0, rfl, Nat.zero_le _, ?_, by simp [go_sem], below_alloc (below_alloc (Below.refl _ _) _) _⟩
      exact (World.ownsMap_made w1 _ _ _).alloc _
    case round =>
      obtain ⟨k, rfl, hk, hown, cm, hB⟩ := hrel
      by_cases hkl : k < ls.length
      · obtain ⟨b, o, hpa, c0, c1⟩ := (HL.out.keep H1.out).keep hB k hkl
        have k0 : (0 : Int) ≤ (k : Int) := by omega
        have k1 : (k : Int) < (ls.length : Int) := by omega
        have k2 : wrap64 ((k : Int) + 1) = (k : Int) + 1 := by unfold wrap64; omega
        obtain ⟨hy0, hy1⟩ := hw _ (List.getElem_mem hkl)
        have hsn : ls.take (k + 1) = ls.take k ++ [ls[k]] := by simp
        subst hpa
        have lm : w1.heap.size + 1 < wr.heap.size := World.block_lt_of_cell? _ _ cm
        generalize ls[k] = y at *
        go_wp2_with ((at_mapUpdate; refine wpList_mapUpdate_own _ rfl _ _ _ 102 rfl 55 4 lawL typM _ w1.heap.size k _ rfl (hown.alloc _) (by unfold maxLen; omega) _ _ _ rfl rfl (keyL hy0 hy1) _ [] (plainElem_bool Tryz.underlying4 true) ?_; intro w2 hown2 hgrow2))
        go_roundw
        case rel =>
          refine ⟨k + 1, by rw [Int.natCast_add]; rfl, by omega, ?_, hgrow2.cell ((World.cell?_alloc_lt _ _ _ lm).trans cm) (by simp), (below_alloc hB _).grown hgrow2 (by simp; omega) (fun j hj => by cases hj; exact Nat.le_refl _)⟩
          rw [hsn, mapL_snoc]
          exact hown2
        case measure =>
          simp [RowKit.intOf]
          omega
      · have hke : k = ls.length := by omega
        subst hke
        rw [List.take_length] at hown
        have M2 := Lib.hid (M1'.out.keep hB)
        have H2 := Lib.hid (below_step H1.out hB)
        have m2 : wr.cell? ⟨w.heap.size, 6, none⟩ = some (.int .i64 n.iv) := M2.out 6 _ rfl
        have lm : w1.heap.size + 1 < wr.heap.size := World.block_lt_of_cell? _ _ cm
        clear hB M1 M1' H1 m6 hmm
        have hdn : n.iv ≠ 0 := by omega
        generalize hf : firstV n par i = f at *
        have hq0 : 0 ≤ (t - f) / n.iv := Int.ediv_nonneg (by omega) (by omega)
        have hq1 : (t - f) / n.iv ≤ t - f := Int.ediv_le_self _ (by omega)
        have htd : Int.tdiv (t - f) n.iv = (t - f) / n.iv := Int.tdiv_eq_ediv_of_nonneg (by omega)
        have hwq : wrap64 ((t - f) / n.iv) = (t - f) / n.iv := by
          generalize (t - f) / n.iv = q at *
          unfold wrap64
          omega
        have c1q : 0 ≤ (t - f) / n.iv := hq0
        have hlast : lastV n par ls i t = lstK (lostB n par ls i) ((t - f) / n.iv).toNat := by unfold lastV; rw [hf, if_neg (by omega)]
        go_wp2
        go_step3
        go_wp2
        have hcase := h
        unfold LastCase at hcase
        clear hlt hlt' h htd hwq
        obtain ⟨q, hq⟩ : ∃ q, (t - f) / n.iv = q := ⟨_, rfl⟩
        rw [hq] at hq0 hq1 hlast
        simp only [hq]
        refine wp_loop (fun a' W => ∃ (k : Int) (b14 : Nat) (Ds : List Nat) (v0 v1 v3 v5 v6 v7 v10 v12 v13 v15 v16 v17 v18 v19 v20 v21 v22 v23 v24 v25 v26 v27 v28 v29 v30 v31 v32 v33 v34 v35 v36 v37 v38 v39 v40 v41 v42 v43 v44 v45 v46 v47 v48 v49 v50 v51 v52 v53 : Value), (-1 ≤ k ∧ k ≤ q ∧ W.cell? ⟨b14, 0, none⟩ = some (.int .i64 k) ∧ W.frozen? ⟨b14, 0, none⟩ = false ∧ wr.heap.size ≤ b14 ∧ Marks wr.heap.size Ds W ∧ Below wr.heap.size wr W ∧
            lastV n par ls i t = (if k < 0 then -1 else lstK (lostB n par ls i) k.toNat)) ∧
            a' = { tmps := #[v0, v1, .int .i64 (i.val : Int), v3, .pointer (some ⟨w.heap.size, 0, none⟩), v5, v6, v7, .int .i64 0, .int .i64 0, v10, .pointer (some ⟨w1.heap.size + 1, 0, none⟩), v12, v13, .pointer (some ⟨b14, 0, none⟩), v15, v16, v17, v18, v19, v20, v21, v22, v23, v24, v25, v26, v27, v28, v29, v30, v31, v32, v33, v34, v35, v36, v37, v38, v39, v40, v41, v42, v43, v44, v45, v46, v47, v48, v49, v50, v51, v52, v53], defers := Ds.map mrk })
          meas14 ?_ ?_
        · refine ⟨q, wr.heap.size, [], _, _, _, _, _, _, _, _, _, _, _, _, _, _, _, _, _, _, _, _, _, _, _, _, _, _, _, _, _, _, _, _, _, _, _, _, _, _, _, _, _, _, _, _, _, _, _, _, ⟨by omega, by omega, (cell_nw wr _ _).1, (cell_nw wr _ _).2, Nat.le_refl _, Marks.nil _ _, below_alloc (Below.refl _ _) _, ?_⟩, rfl⟩
          rw [hlast, if_neg (by omega)]
        · rintro a' W ⟨k, b14, Ds, v0, v1, v3, v5, v6, v7, v10, v12, v13, v15, v16, v17, v18, v19, v20, v21, v22, v23, v24, v25, v26, v27, v28, v29, v30, v31, v32, v33, v34, v35, v36, v37, v38, v39, v40, v41, v42, v43, v44, v45, v46, v47, v48, v49, v50, v51, v52, v53, ⟨k0, k1, ck, fk, hb14, hMk, hB, hlk⟩, rfl⟩
          have hBw := Lib.hid (below_step H2.out hB)
          by_cases hk : k < 0
          · have hk' : ¬ 0 ≤ k := by omega
            rw [if_pos hk] at hlk
            obtain ⟨rfl, rfl⟩ : r = 0 ∧ e = 4 := by
              rcases hcase with ⟨_, h2⟩ | ⟨h1, _⟩
              · exact h2
              · rw [hlk] at h1; omega
            go_wp2
            exact marks_leave (fun w' => results_tmp2 rfl _ _ _) (fun w' hB' => ⟨rfl, hB'⟩) Ds W (hMk.mono H2.out.size) hBw.out
          · have hk' : 0 ≤ k := by omega
            rw [if_neg hk] at hlk
            have MW := Lib.hid (M2.out.keep hB)
            go_wp2_with ((with_reducible refine at_load 67 (.tmp 4) ?_); refine wpList_load_whole rfl (.tmp 4) 67 rfl w.heap.size 0 n.vs rfl ha.out hs.out MW.out ?_; simp only [Act.put, List.setIfInBounds_toArray, List.set_cons_succ, List.set_cons_zero])
            refine (up_any n _ _).mono ?_
            rintro y W0 ⟨rfl, rfl⟩
            go_wp2
            refine (wpIn_wide (n := 4)).1 ?_
            refine wpIn_world' ?_
            intro W0 hW0
            have zW : W.heap.size + 2 ≤ W0.heap.size := by subst hW0; simp
            have B0 : Below wr.heap.size wr W0 := by subst hW0; exact below_alloc (below_alloc hB _) _
            have lb : b14 < W.heap.size := World.block_lt_of_cell? _ _ ck
            have ci : W0.cell? ⟨W.heap.size + 1, 0, none⟩ = some (.int .i64 (i.val : Int)) := by subst hW0; simp [go_sem]
            have ct : W0.cell? ⟨W.heap.size, 1, none⟩ = some (.slice (some ⟨n.bp, n.op, none⟩) n.m n.kp) := by subst hW0; simp [go_sem, Nt.vs]
            have B1 : Below W.heap.size W W0 := by subst hW0; exact below_alloc (below_alloc (Below.refl _ _) _) _
            have ck0 := below_keep B1 ck
            have fk0 := (B1.frozen (p := ⟨b14, 0, none⟩) lb).trans fk
            have hM0 : Marks wr.heap.size Ds W0 := by subst hW0; exact (hMk.kept (World.grownBy_alloc _ _ none) (fun r e => by cases e)).kept (World.grownBy_alloc _ _ none) (fun r e => by cases e)
            clear hW0
            have zwW : w.heap.size ≤ W.heap.size := hBw.out.size
            have hBw0 := Lib.hid (below_step H2.out B0)
            have hnN := HN.out
            have hlp := hnN.lp
            refine wpIn_rangeFunc_ownF rfl (by omega) (gf := 93) (lb := #[.pointer (some ⟨W.heap.size + 1, 0, none⟩), .pointer (some ⟨W.heap.size, 0, none⟩)]) rfl trivial (enters_of Tryz.func93 (by kernel_rfl) rfl)
              (up1_stops Fence.wide _ trivial rfl (by omega) (W.heap.size + 1) W.heap.size (W.heap.size + 1) n par hp i (by omega) (by omega) W0 ci ct (fun j hj => below_keep hBw0.out (hnN.p j hj))) keepC_t (keepC_b (n₀ := W0.heap.size)) (Below.refl _ _) (fun _ => rfl)
              (fun pre W => ((W.cell? ⟨b14, 0, none⟩ = some (.int .i64 k) ∧ W.frozen? ⟨b14, 0, none⟩ = false) ∧ Marks wr.heap.size Ds W ∧ Below wr.heap.size wr W) ∧ ∀ x ∈ pre, (k, (x.val : Int)) ∉ ls)
              (fun c pre W => ((W.cell? ⟨b14, 0, none⟩ = some (.int .i64 k) ∧ W.frozen? ⟨b14, 0, none⟩ = false) ∧ Marks wr.heap.size Ds W ∧ Below wr.heap.size wr W) ∧ c = Code.exit 3 ∧ ∃ x ∈ pre, (k, (x.val : Int)) ∈ ls)
              (OwnFrom.and (OwnFrom.and (Own.from (fun s A B row hs hg hr => ⟨cell_kept hs.1 hg hr, (frozen_kept hs.1 hg hr).trans hs.2⟩) _) (OwnFrom.and (marks_from hM0) (ownFrom_below (Nat.le_refl _) B0.size))) (fun _ _ _ _ hs _ _ => hs))
              (fun _ => OwnFrom.and (OwnFrom.and (Own.from (fun s A B row hs hg hr => ⟨cell_kept hs.1 hg hr, (frozen_kept hs.1 hg hr).trans hs.2⟩) _) (OwnFrom.and (marks_from hM0) (ownFrom_below (Nat.le_refl _) B0.size))) (fun _ _ _ _ hs _ _ => hs))
              ⟨⟨⟨ck0, fk0⟩, hM0, B0⟩, fun x hx => by cases hx⟩
              (fun x => { tmps := #[v0, v1, .int .i64 (i.val : Int), v3, .pointer (some ⟨w.heap.size, 0, none⟩), v5, v6, v7, .int .i64 0, .int .i64 0, v10, .pointer (some ⟨w1.heap.size + 1, 0, none⟩), v12, v13, .pointer (some ⟨b14, 0, none⟩), .int .i64 (x.val : Int), v16, v17, v18, v19, v20, v21, v22, v23, v24, v25, v26, v27, v28, v29, v30, v31, v32, v33, v34, v35, v36, v37, v38, .int .i64 k, .bool true, v41, v42, .agg n.vs.toArray, .int .i64 (i.val : Int), .func (.func 93) #[] #[.pointer (some ⟨W.heap.size + 1, 0, none⟩), .pointer (some ⟨W.heap.size, 0, none⟩)], .int .i64 (x.val : Int), v47, v48, v49, v50, v51, v52, v53], defers := [] }) ?assign ?body ?done ?stop
            case assign =>
              intro l x W K hK
              gi_wp2
              exact hK
            case body =>
              rintro l pre x W3 ⟨⟨⟨hc, hf3⟩, hM3, hB3⟩, hno⟩ hlen
              have cm3 := below_keep hB3 cm
              have hown3 : W3.ownsMap Tryz.prog 55 (plainElem (H := Unit) Tryz.prog 4) w1.heap.size ls.length (mapL ls) := hown.kept (row := none) ⟨hB3.os, hB3.tape, hB3.output, hB3.size, fun i hi _ => hB3.block i hi⟩ (by simp)
              have hx2 : WfL (k, (x.val : Int)) := ⟨wf64 (by omega) (by omega), wf64 (by omega) (by have := x.isLt; have := hb.m12; omega)⟩
              have hat := mapL_has ls (k, (x.val : Int)) hw hx2
              by_cases hin : (k, (x.val : Int)) ∈ ls
              all_goals
                simp only [hin, decide_true, decide_false] at hat
                gi_wp2_with ((gi_at_lookup; refine wpListIn_lookup_bool15 _ rfl _ _ 102 rfl 55 4 lawL typM Tryz.underlying4 (zeroB _) w1.heap.size ls.length (mapL ls) rfl hown3 _ _ rfl (keyL hx2.1 hx2.2) _ hat ?_))
              · exact ⟨KeepsOthers.of_below (Below.refl _ _), ⟨⟨hc, hf3⟩, hM3, hB3⟩, rfl, x, by simp, hin⟩
              · refine ⟨KeepsOthers.of_below (Below.refl _ _), KeepC.refl _ _, ⟨⟨hc, hf3⟩, hM3, hB3⟩, fun y hy => ?_⟩
                rcases List.mem_append.1 hy with h1 | h1
                · exact hno y h1
                · cases List.mem_singleton.1 h1
                  exact hin
            case done =>
              rintro D ys W3 hD rfl ⟨⟨⟨hc, hf3⟩, hM3, hB3⟩, hno⟩ hK
              have hlo : lostB n par ls i k = false := by
                unfold lostB
                rw [List.any_eq_false]
                intro x hx
                simpa using hno x hx
              rw [lstK_no hk' hlo] at hlk
              obtain ⟨rfl, rfl⟩ : r = k ∧ e = 0 := by
                rcases hcase with ⟨h1, _⟩ | ⟨_, h2, h3⟩
                · omega
                · exact ⟨h2.trans hlk, h3⟩
              have hMD := hM3.cons (D := D) (fun X hX => Nat.lt_of_lt_of_le (hM0.lt X hX) hD) (by have := B0.size; omega) hK
              have hBE := below_step H2.out hB3
              go_wp2
              exact marks_leave (fun w' => results_tmp2 rfl _ _ _) (fun w' hB' => ⟨rfl, hB'⟩) (D :: Ds) W3 (hMD.mono H2.out.size) hBE
            case stop =>
              rintro D c pre W3 hD hpre ⟨⟨⟨hc, hf3⟩, hM3, hB3⟩, rfl, hyes⟩ hK
              have hlo : lostB n par ls i k = true := by
                unfold lostB
                rw [List.any_eq_true]
                obtain ⟨x, hx, hin⟩ := hyes
                exact ⟨x, hpre.subset hx, by simpa using hin⟩
              rw [lstK_yes hk' hlo] at hlk
              have hMD := hM3.cons (D := D) (fun X hX => Nat.lt_of_lt_of_le (hM0.lt X hX) hD) (by have := B0.size; omega) hK
              refine wpIn_wide.2 ?_
              go_wp2
              refine ⟨⟨k - 1, W3.heap.size, D :: Ds, _, _, _, _, _, _, _, _, _, _, _, _, _, _, _, _, _, _, _, _, _, _, _, _, _, _, _, _, _, _, _, _, _, _, _, _, _, _, _, _, _, _, _, _, _, _, _, _, ⟨by omega, by omega, (cell_nw W3 _ _).1, (cell_nw W3 _ _).2, hB3.size, hMD.kept (World.grownBy_alloc _ _ none) (fun r e => by cases e), below_alloc hB3 _, hlk⟩, rfl⟩, ?_⟩
              unfold meas14
              simp [ptrOf, ck, (cell_nw W3 (.int .i64 (k - 1)) 3).1, RowKit.intOf]
              omega

end Go.Proofs.YtkencmijghigiaaGreat
