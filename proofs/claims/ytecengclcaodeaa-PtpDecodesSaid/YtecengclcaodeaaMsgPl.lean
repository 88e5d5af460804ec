/-
  A draft's message is right; decoding undoes encoding. No conditions.
-/
import Derived.Test.YtecengclcaodeaaDecD
import Derived.Test.YtecengclcaodeaaDraft2
namespace Go.Proofs.Ytecengclcaodeaa
open Go.RowKit Go.Lib Plain

theorem rd_u (n : Nat) (x : Int) (h0 : 0 ≤ x) (h1 : x < 256 ^ n) (h2 : x < 9223372036854775808) : rdV n false (beB x n) = x := by
  unfold rdV
  rw [if_neg (by simp), uV_beB, Int.emod_eq_of_lt h0 h1]
  unfold wrap64
  omega
theorem rd_s8 (x : Int) (h0 : -9223372036854775808 ≤ x) (h1 : x < 9223372036854775808) : rdV 8 true (beB x 8) = x := by
  rw [rd8, uV_beB, show (256 : Int) ^ 8 = 18446744073709551616 by decide]
  unfold wrap64
  omega
theorem rd_s4 (x : Int) (h0 : -2147483648 ≤ x) (h1 : x < 2147483648) : rdV 4 true (beB x 4) = x := by
  rw [rd4, uV_beB, show (256 : Int) ^ 4 = 4294967296 by decide]
  unfold wrap64
  omega
/-- What reading makes of the bytes that were written. -/
def setF (M : List Int) : List Fld → List Int → List Int
  | [], A => A
  | (i, n, g) :: r, A => setF M r (A.set i (rdV n.toNat g (beB (M.getD i 0) n.toNat)))
theorem rdF_enc (M : List Int) (l : List Fld) : ∀ xs ys A : List Int, rdF (xs ++ (encF M l ++ ys)) l xs.length A = setF M l A := by
  induction l with
  | nil => intro xs ys A; rfl
  | cons f r ih =>
    intro xs ys A
    obtain ⟨i, n, g⟩ := f
    have e1 : ((xs ++ (encF M ((i, n, g) :: r) ++ ys)).drop xs.length).take n.toNat = beB (M.getD i 0) n.toNat := by
      rw [List.drop_left, encF, List.append_assoc, List.take_left' (beB_len _ _)]
    have e2 := ih (xs ++ beB (M.getD i 0) n.toNat) ys (A.set i (rdV n.toNat g (beB (M.getD i 0) n.toNat)))
    rw [List.length_append, beB_len] at e2
    rw [rdF, e1, setF, ← e2, encF]
    simp only [List.append_assoc]
section
variable (K D C i p S T P r q a b c v e g s : Int)
def encN : List Int := [K, D, C, i, p, S, T, P, r, q, a, b, c, v, e, g, s, sizeV K]
def decN : List Int := setF (encN K D C i p S T P r q a b c v e g s) (fldsK K) (setF (encN K D C i p S T P r q a b c v e g s) hdrF [0, 0, 0, 0, 0, 0, 0, 0, 0, 0, 0, 0, 0, 0, 0, 0, 0, 0])
theorem decM_enc : decM K (encM K D C i p S T P r q a b c v e g s) = decN K D C i p S T P r q a b c v e g s := by
  have h22 : (encF (encN K D C i p S T P r q a b c v e g s) hdrF).length = 22 := by
    have h := encF_len (M := encN K D C i p S T P r q a b c v e g s) hdr_fine
    have h2 : tot hdrF = 22 := by decide
    omega
  have h1 := rdF_enc (encN K D C i p S T P r q a b c v e g s) hdrF [] (encF (encN K D C i p S T P r q a b c v e g s) (fldsK K)) [0, 0, 0, 0, 0, 0, 0, 0, 0, 0, 0, 0, 0, 0, 0, 0, 0, 0]
  have h2 := rdF_enc (encN K D C i p S T P r q a b c v e g s) (fldsK K) (encF (encN K D C i p S T P r q a b c v e g s) hdrF) [] (setF (encN K D C i p S T P r q a b c v e g s) hdrF [0, 0, 0, 0, 0, 0, 0, 0, 0, 0, 0, 0, 0, 0, 0, 0, 0, 0])
  rw [h22, List.append_nil] at h2
  unfold decM decN
  rw [← h2, ← h1]
  rfl
theorem dec_enc_of (n : Nat) (hn : n ≠ 0) (hk : byteI K 0 = K) (hs : sizeV K = n) (hl : (encM K D C i p S T P r q a b c v e g s).length = n)
    (hM : decN K D C i p S T P r q a b c v e g s = [K, D, C, i, p, S, T, P, r, q, a, b, c, v, e, g, s, (n : Int)])
    (h : rgtB (baseB D C i p S) (kindB K T P r q a b c v e g s) = true) :
    decRes (encM K D C i p S T P r q a b c v e g s) = [K, D, C, i, p, S, T, P, r, q, a, b, c, v, e, g, s] ∧ decErr (encM K D C i p S T P r q a b c v e g s) = 0 := by
  have hM2 := (decM_enc K D C i p S T P r q a b c v e g s).trans hM
  have hc : encM K D C i p S T P r q a b c v e g s = K :: (encM K D C i p S T P r q a b c v e g s).tail := by
    have : encM K D C i p S T P r q a b c v e g s = byteI K 0 :: (encM K D C i p S T P r q a b c v e g s).tail := rfl
    rw [hk] at this
    exact this
  generalize encM K D C i p S T P r q a b c v e g s = L at *
  have hok : okM (decM K L) (L.length : Int) = true := by
    rw [hM2, hl]
    simp only [okM]
    rw [h]
    simp
  have hg : sizeV K ≠ 0 ∧ (L.length : Int) = sizeV K := by omega
  rw [hc]
  rw [hc] at hg hok hM2
  refine ⟨?_, ?_⟩
  · rw [decRes, if_pos hg, decL, if_pos hok, hM2]
    rfl
  · rw [decErr, if_pos hg, decE, if_pos hok]
end

/-- Decoding undoes encoding. -/
theorem dec_enc (K D C i p S T P r q a b c v e g s : Int) (h : rgtB (baseB D C i p S) (kindB K T P r q a b c v e g s) = true) :
    decRes (encM K D C i p S T P r q a b c v e g s) = [K, D, C, i, p, S, T, P, r, q, a, b, c, v, e, g, s] ∧ decErr (encM K D C i p S T P r q a b c v e g s) = 0 := by
  have hK := kind_of K D C i p S T P r q a b c v e g s h
  have h1 : baseB D C i p S = true := ((Bool.and_eq_true _ _).mp h).1
  have h2 : kindB K T P r q a b c v e g s = true := ((Bool.and_eq_true _ _).mp h).2
  have hb := of_decide_eq_true h1
  simp only [BaseOk, PortOk, In] at hb
  obtain ⟨hD, hC, ⟨hi, hp⟩, hS⟩ := hb
  have rD := rd_u 1 D (by omega) (by omega) (by omega)
  have rC := rd_s8 C (by omega) (by omega)
  have ri := rd_u 6 i (by omega) (by omega) (by omega)
  have rp := rd_u 2 p (by omega) (by omega) (by omega)
  have rS := rd_u 2 S (by omega) (by omega) (by omega)
  rcases hK with rfl | rfl | rfl | rfl | rfl | rfl
  · have hz := of_decide_eq_true h2
    obtain ⟨rfl, rfl, rfl, rfl, rfl, rfl, rfl, rfl, rfl, rfl, rfl⟩ := hz
    refine dec_enc_of 0 D C i p S 0 0 0 0 0 0 0 0 0 0 0 22 (by decide) (by decide) rfl (enc_len_0 ..) ?_ h
    show [rdV 1 false (beB 0 1), rdV 1 false (beB D 1), rdV 8 true (beB C 8), rdV 6 false (beB i 6), rdV 2 false (beB p 2), rdV 2 false (beB S 2), 0, 0, 0, 0, 0, 0, 0, 0, 0, 0, 0, rdV 2 false (beB 22 2)] = _
    rw [rD, rC, ri, rp, rS, rd_u 1 0 (by omega) (by omega) (by omega), rd_u 2 22 (by omega) (by omega) (by omega)]
    rfl
  · have hz := of_decide_eq_true h2
    obtain ⟨rfl, rfl, rfl, rfl, rfl, rfl, rfl, rfl, rfl, rfl, rfl⟩ := hz
    refine dec_enc_of 2 D C i p S 0 0 0 0 0 0 0 0 0 0 0 22 (by decide) (by decide) rfl (enc_len_2 ..) ?_ h
    show [rdV 1 false (beB 2 1), rdV 1 false (beB D 1), rdV 8 true (beB C 8), rdV 6 false (beB i 6), rdV 2 false (beB p 2), rdV 2 false (beB S 2), 0, 0, 0, 0, 0, 0, 0, 0, 0, 0, 0, rdV 2 false (beB 22 2)] = _
    rw [rD, rC, ri, rp, rS, rd_u 1 2 (by omega) (by omega) (by omega), rd_u 2 22 (by omega) (by omega) (by omega)]
    rfl
  · have hz := of_decide_eq_true h2
    simp only [PortOk, In] at hz
    obtain ⟨hT, ⟨hr, hq⟩, rfl, rfl, rfl, rfl, rfl, rfl, rfl, rfl⟩ := hz
    refine dec_enc_of 3 D C i p S T 0 r q 0 0 0 0 0 0 0 38 (by decide) (by decide) rfl (enc_len_3 ..) ?_ h
    show [rdV 1 false (beB 3 1), rdV 1 false (beB D 1), rdV 8 true (beB C 8), rdV 6 false (beB i 6), rdV 2 false (beB p 2), rdV 2 false (beB S 2), rdV 8 true (beB T 8), 0, rdV 6 false (beB r 6), rdV 2 false (beB q 2), 0, 0, 0, 0, 0, 0, 0, rdV 2 false (beB 38 2)] = _
    rw [rD, rC, ri, rp, rS, rd_u 1 3 (by omega) (by omega) (by omega), rd_u 2 38 (by omega) (by omega) (by omega), rd_s8 T (by omega) (by omega), rd_u 6 r (by omega) (by omega) (by omega), rd_u 2 q (by omega) (by omega) (by omega)]
    rfl
  · have hz := of_decide_eq_true h2
    simp only [PortOk, In] at hz
    obtain ⟨hT, ⟨hr, hq⟩, rfl, rfl, rfl, rfl, rfl, rfl, rfl, rfl⟩ := hz
    refine dec_enc_of 10 D C i p S T 0 r q 0 0 0 0 0 0 0 38 (by decide) (by decide) rfl (enc_len_10 ..) ?_ h
    show [rdV 1 false (beB 10 1), rdV 1 false (beB D 1), rdV 8 true (beB C 8), rdV 6 false (beB i 6), rdV 2 false (beB p 2), rdV 2 false (beB S 2), rdV 8 true (beB T 8), 0, rdV 6 false (beB r 6), rdV 2 false (beB q 2), 0, 0, 0, 0, 0, 0, 0, rdV 2 false (beB 38 2)] = _
    rw [rD, rC, ri, rp, rS, rd_u 1 10 (by omega) (by omega) (by omega), rd_u 2 38 (by omega) (by omega) (by omega), rd_s8 T (by omega) (by omega), rd_u 6 r (by omega) (by omega) (by omega), rd_u 2 q (by omega) (by omega) (by omega)]
    rfl
  · have hz := of_decide_eq_true h2
    simp only [In] at hz
    obtain ⟨hT, hP, rfl, rfl, rfl, rfl, rfl, rfl, rfl, rfl, rfl⟩ := hz
    refine dec_enc_of 8 D C i p S T P 0 0 0 0 0 0 0 0 0 34 (by decide) (by decide) rfl (enc_len_8 ..) ?_ h
    show [rdV 1 false (beB 8 1), rdV 1 false (beB D 1), rdV 8 true (beB C 8), rdV 6 false (beB i 6), rdV 2 false (beB p 2), rdV 2 false (beB S 2), rdV 8 true (beB T 8), rdV 4 true (beB P 4), 0, 0, 0, 0, 0, 0, 0, 0, 0, rdV 2 false (beB 34 2)] = _
    rw [rD, rC, ri, rp, rS, rd_u 1 8 (by omega) (by omega) (by omega), rd_u 2 34 (by omega) (by omega) (by omega), rd_s8 T (by omega) (by omega), rd_s4 P (by omega) (by omega)]
    rfl
  · have hz := of_decide_eq_true h2
    simp only [MasterOk, In] at hz
    obtain ⟨⟨⟨ha, hb, hc, he⟩, hv, hg⟩, hs, rfl, rfl, rfl, rfl⟩ := hz
    refine dec_enc_of 11 D C i p S 0 0 0 0 a b c v e g s 36 (by decide) (by decide) rfl (enc_len_11 ..) ?_ h
    show [rdV 1 false (beB 11 1), rdV 1 false (beB D 1), rdV 8 true (beB C 8), rdV 6 false (beB i 6), rdV 2 false (beB p 2), rdV 2 false (beB S 2), 0, 0, 0, 0, rdV 1 false (beB a 1), rdV 1 false (beB b 1), rdV 1 false (beB c 1), rdV 2 false (beB v 2), rdV 1 false (beB e 1), rdV 6 false (beB g 6), rdV 2 false (beB s 2), rdV 2 false (beB 36 2)] = _
    rw [rD, rC, ri, rp, rS, rd_u 1 11 (by omega) (by omega) (by omega), rd_u 2 36 (by omega) (by omega) (by omega), rd_u 1 a (by omega) (by omega) (by omega), rd_u 1 b (by omega) (by omega) (by omega), rd_u 1 c (by omega) (by omega) (by omega), rd_u 2 v (by omega) (by omega) (by omega), rd_u 1 e (by omega) (by omega) (by omega), rd_u 6 g (by omega) (by omega) (by omega), rd_u 2 s (by omega) (by omega) (by omega)]
    rfl

/-- A draft's message is right. -/
theorem drf_right (k d c t i o p s n b x0 x1 x2 x3 v : Int) (h : DrfOk k d c t i o p s n b x0 x1 x2 x3 v) :
    ∃ K' D C i' p' S T P r q a' b' c' v' e g s' : Int, drfL k d c t i o p s n b x0 x1 x2 x3 v = mMsg K' D C i' p' S T P r q a' b' c' v' e g s' ∧ rgtB (baseB D C i' p' S) (kindB K' T P r q a' b' c' v' e g s') = true := by
  obtain ⟨h0, h1, h2, h3, h4, h5, h6, h7, h8, h9, h10, h11, h12, h13, h14⟩ := h
  simp [Lit.wf, IntKind.min, IntKind.max, IntKind.signed, IntKind.bits] at h0 h1 h2 h3 h4 h5 h6 h7 h8 h9 h10 h11 h12 h13 h14
  have b1 := Int.tmod_lt_of_pos b (show (0 : Int) < 8388609 by omega)
  have b2 := Int.lt_tmod_of_pos b (show (0 : Int) < 8388609 by omega)
  have c1 := Int.tmod_lt_of_pos c (show (0 : Int) < 4398046511105 by omega)
  have c2 := Int.lt_tmod_of_pos c (show (0 : Int) < 4398046511105 by omega)
  have t1 := Int.tmod_lt_of_pos t (show (0 : Int) < 4398046511105 by omega)
  have t2 := Int.lt_tmod_of_pos t (show (0 : Int) < 4398046511105 by omega)
  unfold drfL
  generalize c.tmod 4398046511105 = C at *
  generalize t.tmod 4398046511105 = T at *
  generalize b.tmod 8388609 = B at *
  have hB : baseB (d % 128) C (i % 281474976710656) (1 + p % 65535) s = true := by
    unfold baseB
    refine decide_eq_true ?_
    simp only [BaseOk, PortOk, In]
    omega
  rcases six_one (k % 6) with e | e | e | e | e | e
  · refine ⟨0, d % 128, C, i % 281474976710656, 1 + p % 65535, s, 0, 0, 0, 0, 0, 0, 0, 0, 0, 0, 0, by rw [e]; rfl, ?_⟩
    rw [hB]
    rfl
  · refine ⟨2, d % 128, C, i % 281474976710656, 1 + p % 65535, s, 0, 0, 0, 0, 0, 0, 0, 0, 0, 0, 0, by rw [e]; rfl, ?_⟩
    rw [hB]
    rfl
  · refine ⟨3, d % 128, C, i % 281474976710656, 1 + p % 65535, s, T, 0, o % 281474976710656, 1 + n % 65535, 0, 0, 0, 0, 0, 0, 0, by rw [e]; rfl, ?_⟩
    rw [hB]
    show decide _ = true
    refine decide_eq_true ?_
    simp only [PortOk, In, and_true]
    omega
  · refine ⟨8, d % 128, C, i % 281474976710656, 1 + p % 65535, s, T, B, 0, 0, 0, 0, 0, 0, 0, 0, 0, by rw [e]; rfl, ?_⟩
    rw [hB]
    show decide _ = true
    refine decide_eq_true ?_
    simp only [In, and_true]
    omega
  · refine ⟨10, d % 128, C, i % 281474976710656, 1 + p % 65535, s, T, 0, o % 281474976710656, 1 + n % 65535, 0, 0, 0, 0, 0, 0, 0, by rw [e]; rfl, ?_⟩
    rw [hB]
    show decide _ = true
    refine decide_eq_true ?_
    simp only [PortOk, In, and_true]
    omega
  · refine ⟨11, d % 128, C, i % 281474976710656, 1 + p % 65535, s, 0, 0, 0, 0, x0, x1, x2, v, x3, o % 281474976710656, n, by rw [e]; rfl, ?_⟩
    rw [hB]
    show decide _ = true
    refine decide_eq_true ?_
    simp only [MasterOk, In, and_true]
    omega

/-- Different messages have different encodings. -/
theorem enc_apart {K D C i p S T P r q a b c v e g s K' D' C' i' p' S' T' P' r' q' a' b' c' v' e' g' s' : Int} (h : rgtB (baseB D C i p S) (kindB K T P r q a b c v e g s) = true) (h' : rgtB (baseB D' C' i' p' S') (kindB K' T' P' r' q' a' b' c' v' e' g' s') = true) :
    decide (encM K D C i p S T P r q a b c v e g s = encM K' D' C' i' p' S' T' P' r' q' a' b' c' v' e' g' s') = decide ([K, D, C, i, p, S, T, P, r, q, a, b, c, v, e, g, s] = [K', D', C', i', p', S', T', P', r', q', a', b', c', v', e', g', s']) := by
  refine decide_eq_decide.2 ⟨fun hE => ?_, fun hE => ?_⟩
  · rw [← (dec_enc K D C i p S T P r q a b c v e g s h).1, hE, (dec_enc K' D' C' i' p' S' T' P' r' q' a' b' c' v' e' g' s' h').1]
  · simp only [List.cons.injEq, and_true] at hE
    obtain ⟨rfl, rfl, rfl, rfl, rfl, rfl, rfl, rfl, rfl, rfl, rfl, rfl, rfl, rfl, rfl, rfl, rfl⟩ := hE
    rfl

end Go.Proofs.Ytecengclcaodeaa
