/-
  (path.search).routes: extend. No conditions.
-/
import Derived.Deep.RegionHeld3
import Derived.Deep.DeepCutAuto
import Derived.Test.YtjhpbemnklpefaaMTpD
namespace Go.Proofs.Ytjhpbemnklpefaa
open Go.RowKit Go.Lib Go.Shelf Plain
attribute [local go_sem] Oper.semAt_some

section
variable {P : Program} {ops : Array Oper} {o : Oper} {a : Act} {S : World → Prop} {v u : Value} {w w' : World} {K : Act → World → Prop} {Q : Exit → Act → World → Prop} {E : Prop}
theorem yields_moveT {x : Operand} (hgd : o.guard = none) (ho : o.op = .move x) (hv : a.eval x = v) : YieldsIf P ops S o v a :=
  .inl ⟨by simp [Region.wanted, hgd], fun w _ => by simp [execOp, ho, hv]⟩
theorem yields_runT (hgd : o.guard = none) (h : ∀ w, S w → (execOp a.eval o).run P w = .ok (.value v) w) : YieldsIf P ops S o v a := .inl ⟨by simp [Region.wanted, hgd], h⟩
theorem yields_loadT {t : TypeId} {x : Operand} (hgd : o.guard = none) (ho : o.op = .load t x) (ad : Addr) (hx : a.eval x = .pointer (some ad)) (hagg : ∀ w, (isAgg t).run P w = .ok false w) (hc : ∀ w, S w → w.cell? ad = some v) : YieldsIf P ops S o v a :=
  .inl ⟨by simp [Region.wanted, hgd], fun w hw => by
    have hcw := hc w hw
    have hrun : (loadVar t ad).run P w = .ok v w := by simp [loadVar, hagg, Result.andThen, go_sem, hcw]
    simp [execOp, ho, hx, Instr.loadAt, Instr.sureAddr, hrun, Result.andThen]⟩
theorem yields_sliceT {t : TypeId} {x h m : Operand} {p ph pm : Value} (hgd : o.guard = none) (ho : o.op = .slice t x none (some h) (some m)) (hx : a.eval x = p) (hh : a.eval h = ph) (hm : a.eval m = pm) (hr : ∀ w, (Instr.sliceAt t p none (some ph) (some pm)).run P w = .ok v w) : YieldsIf P ops S o v a :=
  .inl ⟨by simp [Region.wanted, hgd], fun w _ => by simp [execOp, ho, hx, hh, hm, hr, Result.andThen]⟩
theorem step_wpT (hgd : o.guard = none) (h : Oper.wp P o a w K Q) : if Region.wanted o (yielded ops a.tmps) = true then Oper.wp P o a w K Q else E := by
  rw [if_pos (by simp [Region.wanted, hgd])]
  exact h
theorem wp_enterT {f : FuncId} {args : Array Value} {R : Ending → World → Prop} (h : (execOp a.eval o).run P w = .ok (.enter f args) w) (hc : Calls P f args w R) (hR : ∀ e w2, R e w2 → ∃ x, e = .returned x ∧ K (a.put o.dst x) w2) : o.wp P a w K Q := by
  unfold Oper.wp
  rw [h, Oper.upon_enter]
  refine hc.mono ?_
  intro e w2 hr
  obtain ⟨x, rfl, hx⟩ := hR e w2 hr
  exact hx
end
theorem noagg85 : ∀ w, (isAgg 85).run Try.prog w = .ok false w := fun w => by kernel_rfl
theorem noagg3 : ∀ w, (isAgg 3).run Try.prog w = .ok false w := fun w => by kernel_rfl
theorem len37 (ao : Option Addr) (n c : Nat) (ty : TypeId) (w : World) : (Builtin.len_ #[37] ty #[.slice ao n c]).run Try.prog w = .ok (.int .i64 (n : Int)) w := by kernel_rfl
theorem yields_lenT {ops : Array Oper} {o : Oper} {a : Act} {S : World → Prop} {x : Operand} {ao : Option Addr} {n c : Nat} (hgd : o.guard = none) (ho : o.op = .call { callee := .builtin .len, args := #[x], argTypes := #[37] }) (hx : a.eval x = .slice ao n c) : YieldsIf Try.prog ops S o (.int .i64 (n : Int)) a :=
  .inl ⟨by simp [Region.wanted, hgd], fun w _ => by
    have hrun := len37 ao n c o.type w
    simp [execOp, ho, resolve, invoke, builtin, hx, hrun, Result.andThen]⟩
theorem add0T (ao : Option Addr) : ao.map (fun b => b.add 0) = ao := by
  cases ao with
  | none => rfl
  | some b => rfl
theorem clipT (ao : Option Addr) (ln kp : Nat) (h : ln ≤ kp) (w : World) : (Instr.sliceAt 37 (.slice ao ln kp) none (some (.int .i64 (ln : Int))) (some (.int .i64 (ln : Int)))).run Try.prog w = .ok (.slice ao ln ln) w := by
  have h1 : (ln : Int) ≤ (kp : Int) := by omega
  have e : (if ln = 0 then ao else ao.map (fun b => b.add 0)) = ao := by rw [add0T]; split <;> rfl
  simp [Instr.sliceAt, Instr.slice, Instr.sliceBounds, go_sem, h1, e]
/-- A row of ports of one's own, with what its block is. -/
theorem owns_rtT {w : World} {base n : Nat} {v : Value} {xs : List Nat} (hl : xs.length = n) (hn : 0 < n) (h : w.ownsRow base 3 1 v n (xs.map fun p : Nat => Value.int .i64 (p : Int))) :
    ∃ r : Rt, v = hV (some r) ∧ r.xs = xs ∧ RtT base r w := by
  subst hl
  rcases h.2 with ⟨_, e⟩ | ⟨q, cap, cur, rfl, h1, h2, h3, h4, h5, h6⟩
  · omega
  · exact ⟨⟨q, 0, cap, xs⟩, rfl, rfl, fun i hi => own_rt_aux hn h hi, ⟨cur, h2⟩, h3, h1⟩

set_option maxHeartbeats 32000000 in
set_option maxRecDepth 100000 in
theorem ext_any (g : Tg) (hk : OkT g.T) (a b : Nat) (w : World) (v : Vb) (h0 : S0 g a b v w) (J : List Rt → World → Prop) (hJ : AbI w J) (N : Nat)
    (hY : ∀ m pre r W, J pre W → RtT w.heap.size r W → pre.length < N → YieldAt Fence.wide m Try.prog v.l #[r.v] W (RdQ w J pre r W)) :
    ∀ (k : Nat) (ro : Option Rt) (n : Nat) (s : Nat → Bool) (pre : List Rt) (W : World), (rx ro).length + k = 8 → n < g.T.n → s n = false → (n = b → ro ≠ none) → RtO w.heap.size ro W → ES w v s W → J pre W → pre.length + (exts g.T a b k (rx ro) n s).length ≤ N →
      Calls Try.prog 33 #[hV ro, .int .i64 (n : Int), .pointer (some ⟨v.bt, 0, none⟩), .pointer (some ⟨v.y, 0, none⟩), .pointer (some ⟨v.bf, 0, none⟩), .pointer (some ⟨v.bs, 0, none⟩), .pointer (some ⟨v.n, 0, none⟩), .pointer (some ⟨v.e, 0, none⟩)] W (ExtQ g a b w v J k ro n s pre W) := by
  intro k
  induction k using Nat.strongRecOn with
  | ind k IH =>
  intro ro n s pre W hl hn hs hro HR HE hj hN
  have n12 := hk.n12
  have l24 := hk.l24
  have IH' := Lib.hid IH
  have HY := Lib.hid hY
  have HAb := Lib.hid hJ
  have H0 := Lib.hid h0
  have HRo := Lib.hid HR
  have HE0 := Lib.hid HE
  have HJ0 := Lib.hid hj
  have HN := Lib.hid hN
  have HRO := Lib.hid hro
  have kt := below_keep HE.b h0.t
  have kf := below_keep HE.b h0.f
  have ky := HE.cy
  clear IH hY hJ h0 HR HE hj hN hro
  obtain ⟨ao, ln, kp, hv⟩ : ∃ ao ln kp, hV ro = .slice ao ln kp := by cases ro <;> exact ⟨_, _, _, rfl⟩
  have hln : ln = (rx ro).length := by
    cases ro with
    | none => cases hv; rfl
    | some r => cases hv; rfl
  by_cases hnb : n = b
  · subst hnb
    cases ro with
    | none => exact absurd rfl (HRO.out rfl)
    | some r =>
      obtain ⟨fn, tmps, assign, body, hy, hR⟩ := HY.out 3 pre r W HJ0.out (HRo.out r rfl) (by have := HN.out; rw [exts_end] at this; simp at this; omega)
      simp only [hV]
      clear hv
      go_enter Try.func33, Try.ntmps33
      go_upto_region 2 with fail
      unfold Rt.v at hy
      refine (wpIn_wide (n := 4)).1 ?_
      gi_wp2
      refine hR.mono ?_
      rintro e W2 ⟨rfl, hJ2, hb2, hk2⟩
      have HP := Lib.hid (show ExtQ g a n w v J k (some r) n s pre W (.returned (.bool true)) W2 from ⟨rfl, [r], by rw [exts_end]; rfl, hJ2, HE0.out.round hb2 hk2, hk2.k3⟩)
      clear hy hR hJ2 hb2 hk2 fn tmps assign body
      gi_wp2
      go_wp2
      go_ret
      exact HP.out
  · have y5 : ¬ (n : Int) = (b : Int) := by omega
    have y6 : ((n : Int) == (b : Int)) = false := beq_eq_false_iff_ne.2 y5
    rw [hv]
    cases k with
    | zero =>
      have hl8 : ln = 8 := by omega
      have HP := Lib.hid (show ExtQ g a b w v J 0 ro n s pre W (.returned (.bool true)) W from ⟨rfl, [], by rw [exts_none hnb (.inl rfl)]; rfl, by rw [List.append_nil]; exact HJ0.out, HE0.out, K3.refl W⟩)
      have hl8i : (ln : Int) = 8 := by omega
      clear hnb hln hv hl8 hl
      go_enter Try.func33, Try.ntmps33
      go_wp2
      go_ret
      exact HP.out
    | succ k =>
      have hl8 : ¬ (ln : Int) = 8 := by omega
      have hl8' : ((ln : Int) == 8) = false := beq_eq_false_iff_ne.2 hl8
      have hlk : ln ≤ kp := by
        cases ro with
        | none => cases hv; omega
        | some r => cases hv; exact (HRo.out r rfl).k
      have hnone : ao = none → kp = 0 := by
        cases ro with
        | none => cases hv; exact fun _ => rfl
        | some r => cases hv; exact fun h => (by cases h)
      have hnone' : ao = none → ln = 0 ∧ ln = 0 := fun h => by have := hnone h; omega
      have HOL := Lib.hid (fun W1 (hK : K3 W W1) => show ∀ b, ao = some b → ∀ j u, ((rx ro).map fun q : Nat => Value.int .i64 (q : Int))[j]? = some u → W1.cell? (b.add j) = some u from by
        cases ro with
        | none => cases hv; exact fun b h => (by cases h)
        | some r =>
          cases hv
          intro b hb j u hj
          cases hb
          rw [add_off]
          have hj2 : j < r.xs.length := by
            have := (List.getElem?_eq_some_iff.1 hj).1
            simpa [rx] using this
          rw [((HRo.out r rfl).keep hK).i j hj2, ← hj]
          simp [Rt.f, rx, List.getD_eq_getElem?_getD, hj2])
      have hlx : ln ≤ 7 := by omega
      have HLN := Lib.hid hln
      have c1 := below_keep HE0.out.b H0.out.s.c1
      have kst := below_keep HE0.out.b (H0.out.s.i.s n hn)
      have hnn : (n : Int) < (g.T.n : Int) := by omega
      have hn12 : (n : Int) < 12 := by omega
      have kn := HE0.out.c n (by omega)
      have kfz := HE0.out.t.fz
      clear hv hln hnone
      go_enter Try.func33, Try.ntmps33
      go_upto_region 3 with fail
      go_cut [33] (fun s33 wx => s33 = .bool (decide (n ≠ a ∧ g.T.st n = true)) ∧ wx = W)
      case first =>
        by_cases hna : n = a
        · subst hna
          go_wp2
          go_meet
          exact ⟨by simp, rfl⟩
        · have x7 : ¬ (n : Int) = (a : Int) := by omega
          have x8 : ((n : Int) == (a : Int)) = false := beq_eq_false_iff_ne.2 x7
          cases hst : g.T.st n with
          | true =>
            rw [hst] at kst
            go_wp2
            go_meet
            exact ⟨by simp [hna, hst, x7], rfl⟩
          | false =>
            rw [hst] at kst
            go_wp2
            go_meet
            exact ⟨by simp [hna, hst, x7], rfl⟩
      case rest =>
      obtain ⟨rfl, rfl⟩ := hcut
      rename_i hK'
      refine hK' _ _ ?_
      clear hK'
      by_cases hsk : n ≠ a ∧ g.T.st n = true
      · rw [decide_eq_true hsk]
        have HP := Lib.hid (show ExtQ g a b w v J (k + 1) ro n s pre wc (.returned (.bool true)) wc from ⟨rfl, [], by rw [exts_none hnb (.inr hsk)]; rfl, by rw [List.append_nil]; exact HJ0.out, HE0.out, K3.refl _⟩)
        clear hnb hsk
        go_wp2
        go_ret
        exact HP.out
      · rw [decide_eq_false hsk]
        have HX := Lib.hid (exts_all (T := g.T) (a := a) (b := b) (k := k) (r := rx ro) (s := s) hnb hsk)
        clear hnb hsk kst c1 kf kt ky
        have HE1 := Lib.hid (HE0.out.set (m := n) true)
        have HJ1 := Lib.hid (HAb.out.set (o := n) HJ0.out (.bool true) HE0.out.t (.inl rfl) HE0.out.z)
        have HK1 := Lib.hid (K3.set (o := n) (.bool true) HE0.out.t (by decide))
        go_upto_region 6 with fail
        refine wp_world ?_
        intro W1 hW1
        rw [← hW1] at HE1 HJ1 HK1
        clear hW1 kn kfz
        have HSv := Lib.hid (show Holds W1 v.bs (sFn g g.T.fr g.T.to) from H0.out.s.h.keep HE1.out.b)
        go_wp2_with ((with_reducible refine at_load 55 (.tmp 5) ?_); refine wpList_load_whole rfl (.tmp 5) 55 rfl v.bs 0 (sFn g g.T.fr g.T.to) rfl agg55 (size55 g _ _) HSv.out ?_; simp only [Act.put, List.setIfInBounds_toArray, List.set_cons_succ, List.set_cons_zero])
        refine (ports_any g g.T.fr g.T.to l24 _).mono ?_
        rintro e W3 ⟨rfl, hb3⟩
        have HE3 := Lib.hid (HE1.out.keep hb3)
        have HJ3 := Lib.hid (HAb.out.keep HJ1.out hb3)
        have HK3 := Lib.hid (HK1.out.trans (K3.of hb3))
        clear hb3 HE1 HJ1 HK1 HSv
        generalize (sFn g g.T.fr g.T.to).toArray = A99
        go_wp2
        go_loopw [38] (fun q wr => ∃ (p : Nat) (rs : List Rt), q = .int .i64 (p : Int) ∧ p ≤ g.T.pn ∧ Hid (ES w v (upd s n true) wr ∧ J (pre ++ rs) wr ∧ rs.map Rt.xs = extTo g.T a b k (rx ro) n s p ∧ K3 wc wr)) (fun q _ => g.T.pn - (RowKit.intOf q).toNat)
        case atStart => exact ⟨0, [], rfl, by omega, Lib.hid ⟨HE3.out, by rw [List.append_nil]; exact HJ3.out, rfl, HK3.out⟩⟩
        case round =>
          clear HE3 HJ3 HK3
          obtain ⟨p, rs, rfl, hp, GX⟩ := hrel
          by_cases hpl : p < g.T.pn
          · have hpl1 : (p : Int) < (g.T.pn : Int) := by omega
            have hpn : g.T.pn ≤ 48 := by unfold Tp.pn; omega
            have hp48 : (p : Int) < 48 := by omega
            have p48 : p < 48 := by omega
            have hfl := fr_lt hk hpl
            have SX := Lib.hid (H0.out.s.keep (w := w) GX.out.1.b)
            have kfr := SX.out.fr p p48
            have kto := SX.out.to p p48
            obtain ⟨f, hf⟩ : ∃ f, g.T.fr p = f := ⟨_, rfl⟩
            obtain ⟨m, hm⟩ : ∃ m, g.T.to p = m := ⟨_, rfl⟩
            rw [hf] at kfr hfl
            rw [hm] at kto hfl
            have HF := Lib.hid hf
            have HM := Lib.hid hm
            clear hf hm
            have hm12 : (m : Int) < 12 := by omega
            have kse := GX.out.1.c m (by omega)
            by_cases hfn : f = n
            · subst hfn
              cases hse : upd s f true m with
              | true =>
                rw [hse] at kse
                have GS := Lib.hid (show ES w v (upd s f true) wr ∧ J (pre ++ rs) wr ∧ rs.map Rt.xs = extTo g.T a b k (rx ro) f s (p + 1) ∧ K3 wc wr from ⟨GX.out.1, GX.out.2.1, by rw [extTo_no (fun h => by rw [HM.out, hse] at h; cases h.2)]; exact GX.out.2.2.1, GX.out.2.2.2⟩)
                clear GX SX HF HM
                go_wp2
                go_roundw
                case rel => exact ⟨p + 1, rs, by rw [Int.natCast_add]; rfl, by omega, GS⟩
                case measure =>
                  simp [RowKit.intOf]
                  omega
              | false =>
                rw [hse] at kse
                have kce := GX.out.1.ce
                have HSE := Lib.hid hse
                clear hse
                go_upto_region 10 with fail
                clear kse kfr
                obtain ⟨j0, hj0, hk0, hk1, hk2⟩ := info_parts info3
                refine wp_region_held_drew (S := fun wx => ES w v (upd s f true) wx) (by kernel_rfl) (GX.out.1.keep (Below.drew (Below.refl _ _))) (fun hS0 => ?_)
                refine wpAnyH_take (i := 0) (v := .func (.func 33) #[] v.cap.toArray) rfl (by kernel_rfl) (by kernel_rfl) (by kernel_rfl) (fun _ _ _ h => h) (yields_loadT rfl rfl ⟨v.e, 0, none⟩ rfl noagg85 (fun w hw => hw.ce)) hS0 ?_
                simp only [Act.put, List.getElem_toArray, List.getElem_cons_succ, List.getElem_cons_zero, List.setIfInBounds_toArray, List.set_cons_succ, List.set_cons_zero]
                refine wpAnyH_take (i := 1) (v := .slice ao ln kp) rfl (by kernel_rfl) (by kernel_rfl) (by kernel_rfl) (fun _ _ _ h => h) (yields_moveT rfl rfl rfl) hS0 ?_
                simp only [Act.put, List.getElem_toArray, List.getElem_cons_succ, List.getElem_cons_zero, List.setIfInBounds_toArray, List.set_cons_succ, List.set_cons_zero]
                refine wpAnyH_take (i := 2) (v := .slice ao ln kp) rfl (by kernel_rfl) (by kernel_rfl) (by kernel_rfl) (fun _ _ _ h => h) (yields_moveT rfl rfl rfl) hS0 ?_
                simp only [Act.put, List.getElem_toArray, List.getElem_cons_succ, List.getElem_cons_zero, List.setIfInBounds_toArray, List.set_cons_succ, List.set_cons_zero]
                refine wpAnyH_take (i := 3) (v := .int .i64 (ln : Int)) rfl (by kernel_rfl) (by kernel_rfl) (by kernel_rfl) (fun _ _ _ h => h) (yields_lenT rfl rfl rfl) hS0 ?_
                simp only [Act.put, List.getElem_toArray, List.getElem_cons_succ, List.getElem_cons_zero, List.setIfInBounds_toArray, List.set_cons_succ, List.set_cons_zero]
                refine wpAnyH_take (i := 4) (v := .slice ao ln kp) rfl (by kernel_rfl) (by kernel_rfl) (by kernel_rfl) (fun _ _ _ h => h) (yields_moveT rfl rfl rfl) hS0 ?_
                simp only [Act.put, List.getElem_toArray, List.getElem_cons_succ, List.getElem_cons_zero, List.setIfInBounds_toArray, List.set_cons_succ, List.set_cons_zero]
                refine wpAnyH_take (i := 5) (v := .int .i64 (ln : Int)) rfl (by kernel_rfl) (by kernel_rfl) (by kernel_rfl) (fun _ _ _ h => h) (yields_lenT rfl rfl rfl) hS0 ?_
                simp only [Act.put, List.getElem_toArray, List.getElem_cons_succ, List.getElem_cons_zero, List.setIfInBounds_toArray, List.set_cons_succ, List.set_cons_zero]
                refine wpAnyH_take (i := 6) (v := .slice ao ln ln) rfl (by kernel_rfl) (by kernel_rfl) (by kernel_rfl) (fun _ _ _ h => h) (yields_sliceT rfl rfl rfl rfl rfl (clipT ao ln kp hlk)) hS0 ?_
                simp only [Act.put, List.getElem_toArray, List.getElem_cons_succ, List.getElem_cons_zero, List.setIfInBounds_toArray, List.set_cons_succ, List.set_cons_zero]
                refine wpAnyH_take (i := 7) (v := .int .i64 (p : Int)) rfl (by kernel_rfl) (by kernel_rfl) (by kernel_rfl) (fun _ _ _ h => h) (yields_moveT rfl rfl rfl) hS0 ?_
                simp only [Act.put, List.getElem_toArray, List.getElem_cons_succ, List.getElem_cons_zero, List.setIfInBounds_toArray, List.set_cons_succ, List.set_cons_zero]
                refine wpAnyH_take (i := 10) (v := .int .i64 (p : Int)) rfl (by kernel_rfl) (by kernel_rfl) (by kernel_rfl) (fun _ _ _ h => h) (yields_moveT rfl rfl rfl) hS0 ?_
                simp only [Act.put, List.getElem_toArray, List.getElem_cons_succ, List.getElem_cons_zero, List.setIfInBounds_toArray, List.set_cons_succ, List.set_cons_zero]
                refine wpAnyH_take (i := 11) (v := .pointer (some ⟨v.bs, 51, none⟩)) rfl (by kernel_rfl) (by kernel_rfl) (by kernel_rfl) (fun _ _ _ h => h) (yields_runT rfl (fun w _ => by simp [execOp, go_sem])) hS0 ?_
                simp only [Act.put, List.getElem_toArray, List.getElem_cons_succ, List.getElem_cons_zero, List.setIfInBounds_toArray, List.set_cons_succ, List.set_cons_zero]
                refine wpAnyH_take (i := 12) (v := .pointer (some ⟨v.bs, 51 + p, none⟩)) rfl (by kernel_rfl) (by kernel_rfl) (by kernel_rfl) (fun _ _ _ h => h) (yields_runT rfl (fun w _ => by simp [execOp, go_sem, show ¬ (48 : Int) ≤ (p : Int) by omega])) hS0 ?_
                simp only [Act.put, List.getElem_toArray, List.getElem_cons_succ, List.getElem_cons_zero, List.setIfInBounds_toArray, List.set_cons_succ, List.set_cons_zero]
                refine wpAnyH_take (i := 13) (v := .int .i64 (m : Int)) rfl (by kernel_rfl) (by kernel_rfl) (by kernel_rfl) (fun _ _ _ h => h) (yields_loadT rfl rfl ⟨v.bs, 51 + p, none⟩ rfl noagg3 (fun w' hw => by have hq := (H0.out.s.keep hw.b).to p p48; rw [HM.out] at hq; exact hq)) hS0 ?_
                simp only [Act.put, List.getElem_toArray, List.getElem_cons_succ, List.getElem_cons_zero, List.setIfInBounds_toArray, List.set_cons_succ, List.set_cons_zero]
                refine wpAnyH_ready (rs := [8]) (by kernel_rfl) (by simp) ?_
                refine AllReadyH.cons rfl (fun K9 hK9 => ?_) AllReadyH.nil
                refine step_wpT rfl (wp_of_run (v := .slice (some ⟨wr.heap.size, 0, none⟩) 1 1) (w' := (wr.alloc (.cells #[.int .i64 (p : Int)] 3)).drew) (by simp [execOp, go_sem]) ?_)
                have hS1 : Below wr.heap.size wr (wr.alloc (.cells #[.int .i64 (p : Int)] 3)).drew := (below_alloc (Below.refl _ _) _).drew
                refine hK9.out _ _ (GX.out.1.keep hS1) (fun _ => ?_)
                simp only [Act.put, List.getElem_toArray, List.getElem_cons_succ, List.getElem_cons_zero, List.setIfInBounds_toArray, List.set_cons_succ, List.set_cons_zero]
                refine wpAnyH_ready (rs := [9]) (by kernel_rfl) (by simp) ?_
                refine AllReadyH.cons rfl (fun K8 hK8 => ?_) AllReadyH.nil
                refine step_wpT rfl ?_
                refine wp_append_growsT (.tmp 61) (.tmp 63) 37 rfl 3 j0 _ 1 8 Try.underlying37 hj0 hk0 hk1 hk2 rfl (by omega) ao ln ln ((rx ro).map fun q : Nat => Value.int .i64 (q : Int)) rfl hnone' (by rw [HLN.out]; simp) (HOL.out _ (GX.out.2.2.2.trans (K3.of hS1))) ⟨wr.heap.size, 0, none⟩ 1 1 [.int .i64 (p : Int)] rfl rfl (fun j u hj => by rw [add_off]; exact holds_alloc wr [.int .i64 (p : Int)] 3 rfl j u hj) (one_one15 _) (by omega) (by unfold maxLen; omega) (by omega) ?_
                intro v' w4 hown hgrow
                have hS4 : Below wr.heap.size wr w4 := hS1.grown hgrow hS1.size (fun k e => by cases e)
                obtain ⟨R, hRv, hRx, hRt⟩ := owns_rtT (xs := rx ro ++ [p]) (n := ln + 1) (by rw [HLN.out]; simp) (by omega) (by simpa using hown)
                have hRT : RtT w.heap.size R w4 := ⟨hRt.i, hRt.t, hRt.k, Nat.le_trans GX.out.1.b.size (Nat.le_of_succ_le hRt.b)⟩
                subst hRv
                refine hK8.out _ _ (GX.out.1.keep hS4) (fun hS5 => ?_)
                clear hK8 K8 hK9 K9 hown hgrow hRt hS5 hS1
                simp only [Act.put, List.getElem_toArray, List.getElem_cons_succ, List.getElem_cons_zero, List.setIfInBounds_toArray, List.set_cons_succ, List.set_cons_zero]
                have HR4 := Lib.hid hRT
                have HG4 := Lib.hid (show ES w v (upd s f true) w4 ∧ J (pre ++ rs) w4 ∧ rs.map Rt.xs = extTo g.T a b k (rx ro) f s p ∧ K3 wc w4 from ⟨GX.out.1.keep hS4, HAb.out.keep GX.out.2.1 hS4, GX.out.2.2.1, GX.out.2.2.2.trans (K3.of hS4)⟩)
                have HRX := Lib.hid hRx
                have HEX := Lib.hid (extTo_yes (a := a) (b := b) (k := k) (r := rx ro) HF.out (by rw [HM.out]; exact HSE.out))
                have HC := Lib.hid (IH'.out k (Nat.lt_succ_self k) (some R) m (upd s f true) (pre ++ rs) w4 (by show R.xs.length + k = 8; rw [HRX.out]; simp; omega) (by omega) HSE.out (fun _ => by simp) (fun r e => by cases e; exact HR4.out) HG4.out.1 HG4.out.2.1 (by
                  have h1 := HN.out
                  rw [HX.out] at h1
                  have h2 := extTo_le (T := g.T) (a := a) (b := b) (k := k) (r := rx ro) (n := f) (s := s) (show p + 1 ≤ g.T.pn by omega)
                  rw [HEX.out, HM.out, List.length_append] at h2
                  have h3 : rs.length = (extTo g.T a b k (rx ro) f s p).length := by rw [← HG4.out.2.2.1]; simp
                  show (pre ++ rs).length + (exts g.T a b k R.xs m (upd s f true)).length ≤ N
                  rw [HRX.out, List.length_append]
                  omega))
                clear hRT hRx GX SX hS0 hj0 hk0 hk1 hk2 kce kto
                refine wpAnyH_ready (rs := [14]) (by kernel_rfl) (by simp) ?_
                refine AllReadyH.cons rfl (fun K7 hK7 => ?_) AllReadyH.nil
                refine step_wpT rfl (wp_enterT (f := 33) (args := #[hV (some R), .int .i64 (m : Int), .pointer (some ⟨v.bt, 0, none⟩), .pointer (some ⟨v.y, 0, none⟩), .pointer (some ⟨v.bf, 0, none⟩), .pointer (some ⟨v.bs, 0, none⟩), .pointer (some ⟨v.n, 0, none⟩), .pointer (some ⟨v.e, 0, none⟩)]) (by simp [execOp, go_sem, hV, Vb.cap]) HC.out ?_)
                rintro e w6 ⟨rfl, rs2, hm6, hJ6, hE6, hK6⟩
                refine ⟨_, rfl, hK7.out _ _ hE6 (fun hS6 => ?_)⟩
                simp only [Act.put, List.getElem_toArray, List.getElem_cons_succ, List.getElem_cons_zero, List.setIfInBounds_toArray, List.set_cons_succ, List.set_cons_zero]
                refine wpAnyH_take (i := 15) (v := .bool false) rfl (by kernel_rfl) (by kernel_rfl) (by kernel_rfl) (fun _ _ _ h => h) (yields_runT rfl (fun w _ => by simp [execOp, go_sem])) hS6 ?_
                simp only [Act.put, List.getElem_toArray, List.getElem_cons_succ, List.getElem_cons_zero, List.setIfInBounds_toArray, List.set_cons_succ, List.set_cons_zero]
                refine wpAnyH_done (by kernel_rfl) ?_ _
                have GS := Lib.hid (show ES w v (upd s f true) w6 ∧ J (pre ++ (rs ++ rs2)) w6 ∧ (rs ++ rs2).map Rt.xs = extTo g.T a b k (rx ro) f s (p + 1) ∧ K3 wc w6 from ⟨hE6, by rw [← List.append_assoc]; exact hJ6, by
                  rw [HEX.out, HM.out, List.map_append, HG4.out.2.2.1, hm6]
                  show _ = _ ++ exts g.T a b k (rx ro ++ [p]) m (upd s f true)
                  rw [← HRX.out]
                  rfl, HG4.out.2.2.2.trans hK6⟩)
                clear HC hK7 K7 hm6 hJ6 hE6 hK6 hS6 HG4 HR4 HRX HEX
                go_wp2
                go_roundw
                case rel => exact ⟨p + 1, rs ++ rs2, by rw [Int.natCast_add]; rfl, by omega, GS⟩
                case measure =>
                  simp [RowKit.intOf]
                  omega
            · have x7 : ¬ (f : Int) = (n : Int) := by omega
              have x8 : ((f : Int) == (n : Int)) = false := beq_eq_false_iff_ne.2 x7
              have GS := Lib.hid (show ES w v (upd s n true) wr ∧ J (pre ++ rs) wr ∧ rs.map Rt.xs = extTo g.T a b k (rx ro) n s (p + 1) ∧ K3 wc wr from ⟨GX.out.1, GX.out.2.1, by rw [extTo_no (fun h => hfn (HF.out.symm.trans h.1))]; exact GX.out.2.2.1, GX.out.2.2.2⟩)
              clear GX SX HF HM
              go_wp2
              go_roundw
              case rel => exact ⟨p + 1, rs, by rw [Int.natCast_add]; rfl, by omega, GS⟩
              case measure =>
                simp [RowKit.intOf]
                omega
          · have hpl1 : ¬ (p : Int) < (g.T.pn : Int) := by omega
            obtain rfl : p = g.T.pn := by omega
            have hb1 := upd_back hs
            have hkn := GX.out.1.c n (by omega)
            have hkz := GX.out.1.t.fz
            have HP := Lib.hid (show ExtQ g a b w v J (k + 1) ro n s pre wc (.returned (.bool true)) (wr.setCell ⟨v.n, n, none⟩ (.bool false)) from
              ⟨rfl, rs, by rw [GX.out.2.2.1, ← HX.out], HAb.out.set GX.out.2.1 _ GX.out.1.t (.inl rfl) GX.out.1.z, (GX.out.1.set false).eq hb1, GX.out.2.2.2.trans (K3.set _ GX.out.1.t (by decide))⟩)
            clear GX hb1 HX hp
            generalize upd s n true n = bb at *
            go_wp2
            go_ret
            exact HP.out

end Go.Proofs.Ytjhpbemnklpefaa
