/-
  Encoding undoes decoding: bytes that Decode takes are the encoding of their message. No conditions.
-/
import Derived.Test.YtecengclcaodeaaDrfEnc
namespace Go.Proofs.Ytecengclcaodeaa
open Go.RowKit Go.Lib Plain

theorem rd_back {n : Nat} {g : Bool} {bs : List Int} (hb : Bytes bs) (hl : bs.length = n) (h8 : n ≤ 8) (hg : g = true → n = 8 ∨ n = 4) : beB (rdV n g bs) n = bs := by
  have h := uV_bd bs hb
  have e : rdV n g bs % 256 ^ bs.length = uV bs := by
    rw [hl] at h ⊢
    unfold rdV
    generalize uV bs = u at *
    cases g with
    | true =>
      rcases hg rfl with rfl | rfl
      · show wrap64 (wrap64 u * 1) / 1 % 256 ^ 8 = u
        unfold wrap64
        omega
      · show wrap64 (wrap64 u * 4294967296) / 4294967296 % 256 ^ 4 = u
        unfold wrap64
        omega
    | false =>
      show wrap64 u % 256 ^ n = u
      unfold wrap64
      rcases (show n = 0 ∨ n = 1 ∨ n = 2 ∨ n = 3 ∨ n = 4 ∨ n = 5 ∨ n = 6 ∨ n = 7 ∨ n = 8 by omega) with rfl | rfl | rfl | rfl | rfl | rfl | rfl | rfl | rfl <;> omega
  have := beB_of_uV hb e
  rwa [hl] at this
/-- A message's numbers are what reading makes of the bytes. -/
def Reads (L M : List Int) : List Fld → Nat → Prop
  | [], _ => True
  | (i, n, g) :: r, at_ => (M.getD i 0 = rdV n.toNat g ((L.drop at_).take n.toNat) ∧ n.toNat ≤ 8 ∧ (g = true → n.toNat = 8 ∨ n.toNat = 4)) ∧ Reads L M r (at_ + n.toNat)
theorem bytes_take2 {L : List Int} (h : Bytes L) (a k : Nat) : Bytes ((L.drop a).take k) := fun b hb => h b (List.mem_of_mem_drop (List.mem_of_mem_take hb))
theorem encF_reads {L M : List Int} (hB : Bytes L) : ∀ (l : List Fld) (at_ : Nat), Reads L M l at_ → at_ + totN l ≤ L.length → encF M l = (L.drop at_).take (totN l) := by
  intro l
  induction l with
  | nil => intro at_ _ _; simp [encF, totN]
  | cons f r ih =>
    obtain ⟨i, n, g⟩ := f
    intro at_ ⟨⟨h1, h2, h3⟩, h4⟩ hl
    simp only [totN] at hl ⊢
    rw [encF, h1, rd_back (bytes_take2 hB at_ n.toNat) (by rw [List.length_take, List.length_drop]; omega) h2 h3, ih (at_ + n.toNat) h4 (by omega)]
    rw [← List.drop_drop, List.take_add]

theorem enc_dec_0 {t : List Int} (hB : Bytes (0 :: t)) (hl : (0 :: t).length = 22) {m0 m1 m2 m3 m4 m5 m6 m7 m8 m9 m10 m11 m12 m13 m14 m15 m16 m17 : Int} (hM : decM 0 (0 :: t) = [m0, m1, m2, m3, m4, m5, m6, m7, m8, m9, m10, m11, m12, m13, m14, m15, m16, m17]) (h17 : m17 = 22) : encM m0 m1 m2 m3 m4 m5 m6 m7 m8 m9 m10 m11 m12 m13 m14 m15 m16 = 0 :: t := by
  have e : [rdV 1 false (((0 :: t).drop 0).take 1), rdV 1 false (((0 :: t).drop 1).take 1), rdV 8 true (((0 :: t).drop 4).take 8), rdV 6 false (((0 :: t).drop 12).take 6), rdV 2 false (((0 :: t).drop 18).take 2), rdV 2 false (((0 :: t).drop 20).take 2), 0, 0, 0, 0, 0, 0, 0, 0, 0, 0, 0, rdV 2 false (((0 :: t).drop 2).take 2)] = [m0, m1, m2, m3, m4, m5, m6, m7, m8, m9, m10, m11, m12, m13, m14, m15, m16, m17] := hM
  simp only [List.cons.injEq] at e
  obtain ⟨e0, e1, e2, e3, e4, e5, e6, e7, e8, e9, e10, e11, e12, e13, e14, e15, e16, e17, _⟩ := e
  have h0 : m0 = 0 := e0.symm.trans (show wrap64 (uV [0]) = 0 by decide +kernel)
  subst h0
  have h1 : encF [(0 : Int), m1, m2, m3, m4, m5, m6, m7, m8, m9, m10, m11, m12, m13, m14, m15, m16, 22] hdrF = ((0 :: t).drop 0).take 22 := encF_reads hB hdrF 0 (show Reads _ [(0 : Int), m1, m2, m3, m4, m5, m6, m7, m8, m9, m10, m11, m12, m13, m14, m15, m16, 22] hdrF 0 from ⟨⟨e0.symm, by decide, by decide⟩, ⟨e1.symm, by decide, by decide⟩, ⟨(h17.symm.trans e17.symm), by decide, by decide⟩, ⟨e2.symm, by decide, by decide⟩, ⟨e3.symm, by decide, by decide⟩, ⟨e4.symm, by decide, by decide⟩, ⟨e5.symm, by decide, by decide⟩, trivial⟩) (by rw [hl]; decide)
  have h2 : encF [(0 : Int), m1, m2, m3, m4, m5, m6, m7, m8, m9, m10, m11, m12, m13, m14, m15, m16, 22] (fldsK 0) = ((0 :: t).drop 22).take 0 := encF_reads hB (fldsK 0) 22 (show Reads _ [(0 : Int), m1, m2, m3, m4, m5, m6, m7, m8, m9, m10, m11, m12, m13, m14, m15, m16, 22] (fldsK 0) 22 from trivial) (by rw [hl]; decide)
  show encF [(0 : Int), m1, m2, m3, m4, m5, m6, m7, m8, m9, m10, m11, m12, m13, m14, m15, m16, 22] hdrF ++ encF [(0 : Int), m1, m2, m3, m4, m5, m6, m7, m8, m9, m10, m11, m12, m13, m14, m15, m16, 22] (fldsK 0) = _
  rw [h1, h2, List.drop_zero, List.take_of_length_le (l := (0 :: t).drop 22) (by rw [List.length_drop, hl]; decide), List.take_append_drop]
theorem enc_dec_2 {t : List Int} (hB : Bytes (2 :: t)) (hl : (2 :: t).length = 22) {m0 m1 m2 m3 m4 m5 m6 m7 m8 m9 m10 m11 m12 m13 m14 m15 m16 m17 : Int} (hM : decM 2 (2 :: t) = [m0, m1, m2, m3, m4, m5, m6, m7, m8, m9, m10, m11, m12, m13, m14, m15, m16, m17]) (h17 : m17 = 22) : encM m0 m1 m2 m3 m4 m5 m6 m7 m8 m9 m10 m11 m12 m13 m14 m15 m16 = 2 :: t := by
  have e : [rdV 1 false (((2 :: t).drop 0).take 1), rdV 1 false (((2 :: t).drop 1).take 1), rdV 8 true (((2 :: t).drop 4).take 8), rdV 6 false (((2 :: t).drop 12).take 6), rdV 2 false (((2 :: t).drop 18).take 2), rdV 2 false (((2 :: t).drop 20).take 2), 0, 0, 0, 0, 0, 0, 0, 0, 0, 0, 0, rdV 2 false (((2 :: t).drop 2).take 2)] = [m0, m1, m2, m3, m4, m5, m6, m7, m8, m9, m10, m11, m12, m13, m14, m15, m16, m17] := hM
  simp only [List.cons.injEq] at e
  obtain ⟨e0, e1, e2, e3, e4, e5, e6, e7, e8, e9, e10, e11, e12, e13, e14, e15, e16, e17, _⟩ := e
  have h0 : m0 = 2 := e0.symm.trans (show wrap64 (uV [2]) = 2 by decide +kernel)
  subst h0
  have h1 : encF [(2 : Int), m1, m2, m3, m4, m5, m6, m7, m8, m9, m10, m11, m12, m13, m14, m15, m16, 22] hdrF = ((2 :: t).drop 0).take 22 := encF_reads hB hdrF 0 (show Reads _ [(2 : Int), m1, m2, m3, m4, m5, m6, m7, m8, m9, m10, m11, m12, m13, m14, m15, m16, 22] hdrF 0 from ⟨⟨e0.symm, by decide, by decide⟩, ⟨e1.symm, by decide, by decide⟩, ⟨(h17.symm.trans e17.symm), by decide, by decide⟩, ⟨e2.symm, by decide, by decide⟩, ⟨e3.symm, by decide, by decide⟩, ⟨e4.symm, by decide, by decide⟩, ⟨e5.symm, by decide, by decide⟩, trivial⟩) (by rw [hl]; decide)
  have h2 : encF [(2 : Int), m1, m2, m3, m4, m5, m6, m7, m8, m9, m10, m11, m12, m13, m14, m15, m16, 22] (fldsK 2) = ((2 :: t).drop 22).take 0 := encF_reads hB (fldsK 2) 22 (show Reads _ [(2 : Int), m1, m2, m3, m4, m5, m6, m7, m8, m9, m10, m11, m12, m13, m14, m15, m16, 22] (fldsK 2) 22 from trivial) (by rw [hl]; decide)
  show encF [(2 : Int), m1, m2, m3, m4, m5, m6, m7, m8, m9, m10, m11, m12, m13, m14, m15, m16, 22] hdrF ++ encF [(2 : Int), m1, m2, m3, m4, m5, m6, m7, m8, m9, m10, m11, m12, m13, m14, m15, m16, 22] (fldsK 2) = _
  rw [h1, h2, List.drop_zero, List.take_of_length_le (l := (2 :: t).drop 22) (by rw [List.length_drop, hl]; decide), List.take_append_drop]
theorem enc_dec_3 {t : List Int} (hB : Bytes (3 :: t)) (hl : (3 :: t).length = 38) {m0 m1 m2 m3 m4 m5 m6 m7 m8 m9 m10 m11 m12 m13 m14 m15 m16 m17 : Int} (hM : decM 3 (3 :: t) = [m0, m1, m2, m3, m4, m5, m6, m7, m8, m9, m10, m11, m12, m13, m14, m15, m16, m17]) (h17 : m17 = 38) : encM m0 m1 m2 m3 m4 m5 m6 m7 m8 m9 m10 m11 m12 m13 m14 m15 m16 = 3 :: t := by
  have e : [rdV 1 false (((3 :: t).drop 0).take 1), rdV 1 false (((3 :: t).drop 1).take 1), rdV 8 true (((3 :: t).drop 4).take 8), rdV 6 false (((3 :: t).drop 12).take 6), rdV 2 false (((3 :: t).drop 18).take 2), rdV 2 false (((3 :: t).drop 20).take 2), rdV 8 true (((3 :: t).drop 22).take 8), 0, rdV 6 false (((3 :: t).drop 30).take 6), rdV 2 false (((3 :: t).drop 36).take 2), 0, 0, 0, 0, 0, 0, 0, rdV 2 false (((3 :: t).drop 2).take 2)] = [m0, m1, m2, m3, m4, m5, m6, m7, m8, m9, m10, m11, m12, m13, m14, m15, m16, m17] := hM
  simp only [List.cons.injEq] at e
  obtain ⟨e0, e1, e2, e3, e4, e5, e6, e7, e8, e9, e10, e11, e12, e13, e14, e15, e16, e17, _⟩ := e
  have h0 : m0 = 3 := e0.symm.trans (show wrap64 (uV [3]) = 3 by decide +kernel)
  subst h0
  have h1 : encF [(3 : Int), m1, m2, m3, m4, m5, m6, m7, m8, m9, m10, m11, m12, m13, m14, m15, m16, 38] hdrF = ((3 :: t).drop 0).take 22 := encF_reads hB hdrF 0 (show Reads _ [(3 : Int), m1, m2, m3, m4, m5, m6, m7, m8, m9, m10, m11, m12, m13, m14, m15, m16, 38] hdrF 0 from ⟨⟨e0.symm, by decide, by decide⟩, ⟨e1.symm, by decide, by decide⟩, ⟨(h17.symm.trans e17.symm), by decide, by decide⟩, ⟨e2.symm, by decide, by decide⟩, ⟨e3.symm, by decide, by decide⟩, ⟨e4.symm, by decide, by decide⟩, ⟨e5.symm, by decide, by decide⟩, trivial⟩) (by rw [hl]; decide)
  have h2 : encF [(3 : Int), m1, m2, m3, m4, m5, m6, m7, m8, m9, m10, m11, m12, m13, m14, m15, m16, 38] (fldsK 3) = ((3 :: t).drop 22).take 16 := encF_reads hB (fldsK 3) 22 (show Reads _ [(3 : Int), m1, m2, m3, m4, m5, m6, m7, m8, m9, m10, m11, m12, m13, m14, m15, m16, 38] (fldsK 3) 22 from ⟨⟨e6.symm, by decide, by decide⟩, ⟨e8.symm, by decide, by decide⟩, ⟨e9.symm, by decide, by decide⟩, trivial⟩) (by rw [hl]; decide)
  show encF [(3 : Int), m1, m2, m3, m4, m5, m6, m7, m8, m9, m10, m11, m12, m13, m14, m15, m16, 38] hdrF ++ encF [(3 : Int), m1, m2, m3, m4, m5, m6, m7, m8, m9, m10, m11, m12, m13, m14, m15, m16, 38] (fldsK 3) = _
  rw [h1, h2, List.drop_zero, List.take_of_length_le (l := (3 :: t).drop 22) (by rw [List.length_drop, hl]; decide), List.take_append_drop]
theorem enc_dec_10 {t : List Int} (hB : Bytes (10 :: t)) (hl : (10 :: t).length = 38) {m0 m1 m2 m3 m4 m5 m6 m7 m8 m9 m10 m11 m12 m13 m14 m15 m16 m17 : Int} (hM : decM 10 (10 :: t) = [m0, m1, m2, m3, m4, m5, m6, m7, m8, m9, m10, m11, m12, m13, m14, m15, m16, m17]) (h17 : m17 = 38) : encM m0 m1 m2 m3 m4 m5 m6 m7 m8 m9 m10 m11 m12 m13 m14 m15 m16 = 10 :: t := by
  have e : [rdV 1 false (((10 :: t).drop 0).take 1), rdV 1 false (((10 :: t).drop 1).take 1), rdV 8 true (((10 :: t).drop 4).take 8), rdV 6 false (((10 :: t).drop 12).take 6), rdV 2 false (((10 :: t).drop 18).take 2), rdV 2 false (((10 :: t).drop 20).take 2), rdV 8 true (((10 :: t).drop 22).take 8), 0, rdV 6 false (((10 :: t).drop 30).take 6), rdV 2 false (((10 :: t).drop 36).take 2), 0, 0, 0, 0, 0, 0, 0, rdV 2 false (((10 :: t).drop 2).take 2)] = [m0, m1, m2, m3, m4, m5, m6, m7, m8, m9, m10, m11, m12, m13, m14, m15, m16, m17] := hM
  simp only [List.cons.injEq] at e
  obtain ⟨e0, e1, e2, e3, e4, e5, e6, e7, e8, e9, e10, e11, e12, e13, e14, e15, e16, e17, _⟩ := e
  have h0 : m0 = 10 := e0.symm.trans (show wrap64 (uV [10]) = 10 by decide +kernel)
  subst h0
  have h1 : encF [(10 : Int), m1, m2, m3, m4, m5, m6, m7, m8, m9, m10, m11, m12, m13, m14, m15, m16, 38] hdrF = ((10 :: t).drop 0).take 22 := encF_reads hB hdrF 0 (show Reads _ [(10 : Int), m1, m2, m3, m4, m5, m6, m7, m8, m9, m10, m11, m12, m13, m14, m15, m16, 38] hdrF 0 from ⟨⟨e0.symm, by decide, by decide⟩, ⟨e1.symm, by decide, by decide⟩, ⟨(h17.symm.trans e17.symm), by decide, by decide⟩, ⟨e2.symm, by decide, by decide⟩, ⟨e3.symm, by decide, by decide⟩, ⟨e4.symm, by decide, by decide⟩, ⟨e5.symm, by decide, by decide⟩, trivial⟩) (by rw [hl]; decide)
  have h2 : encF [(10 : Int), m1, m2, m3, m4, m5, m6, m7, m8, m9, m10, m11, m12, m13, m14, m15, m16, 38] (fldsK 10) = ((10 :: t).drop 22).take 16 := encF_reads hB (fldsK 10) 22 (show Reads _ [(10 : Int), m1, m2, m3, m4, m5, m6, m7, m8, m9, m10, m11, m12, m13, m14, m15, m16, 38] (fldsK 10) 22 from ⟨⟨e6.symm, by decide, by decide⟩, ⟨e8.symm, by decide, by decide⟩, ⟨e9.symm, by decide, by decide⟩, trivial⟩) (by rw [hl]; decide)
  show encF [(10 : Int), m1, m2, m3, m4, m5, m6, m7, m8, m9, m10, m11, m12, m13, m14, m15, m16, 38] hdrF ++ encF [(10 : Int), m1, m2, m3, m4, m5, m6, m7, m8, m9, m10, m11, m12, m13, m14, m15, m16, 38] (fldsK 10) = _
  rw [h1, h2, List.drop_zero, List.take_of_length_le (l := (10 :: t).drop 22) (by rw [List.length_drop, hl]; decide), List.take_append_drop]
theorem enc_dec_8 {t : List Int} (hB : Bytes (8 :: t)) (hl : (8 :: t).length = 34) {m0 m1 m2 m3 m4 m5 m6 m7 m8 m9 m10 m11 m12 m13 m14 m15 m16 m17 : Int} (hM : decM 8 (8 :: t) = [m0, m1, m2, m3, m4, m5, m6, m7, m8, m9, m10, m11, m12, m13, m14, m15, m16, m17]) (h17 : m17 = 34) : encM m0 m1 m2 m3 m4 m5 m6 m7 m8 m9 m10 m11 m12 m13 m14 m15 m16 = 8 :: t := by
  have e : [rdV 1 false (((8 :: t).drop 0).take 1), rdV 1 false (((8 :: t).drop 1).take 1), rdV 8 true (((8 :: t).drop 4).take 8), rdV 6 false (((8 :: t).drop 12).take 6), rdV 2 false (((8 :: t).drop 18).take 2), rdV 2 false (((8 :: t).drop 20).take 2), rdV 8 true (((8 :: t).drop 22).take 8), rdV 4 true (((8 :: t).drop 30).take 4), 0, 0, 0, 0, 0, 0, 0, 0, 0, rdV 2 false (((8 :: t).drop 2).take 2)] = [m0, m1, m2, m3, m4, m5, m6, m7, m8, m9, m10, m11, m12, m13, m14, m15, m16, m17] := hM
  simp only [List.cons.injEq] at e
  obtain ⟨e0, e1, e2, e3, e4, e5, e6, e7, e8, e9, e10, e11, e12, e13, e14, e15, e16, e17, _⟩ := e
  have h0 : m0 = 8 := e0.symm.trans (show wrap64 (uV [8]) = 8 by decide +kernel)
  subst h0
  have h1 : encF [(8 : Int), m1, m2, m3, m4, m5, m6, m7, m8, m9, m10, m11, m12, m13, m14, m15, m16, 34] hdrF = ((8 :: t).drop 0).take 22 := encF_reads hB hdrF 0 (show Reads _ [(8 : Int), m1, m2, m3, m4, m5, m6, m7, m8, m9, m10, m11, m12, m13, m14, m15, m16, 34] hdrF 0 from ⟨⟨e0.symm, by decide, by decide⟩, ⟨e1.symm, by decide, by decide⟩, ⟨(h17.symm.trans e17.symm), by decide, by decide⟩, ⟨e2.symm, by decide, by decide⟩, ⟨e3.symm, by decide, by decide⟩, ⟨e4.symm, by decide, by decide⟩, ⟨e5.symm, by decide, by decide⟩, trivial⟩) (by rw [hl]; decide)
  have h2 : encF [(8 : Int), m1, m2, m3, m4, m5, m6, m7, m8, m9, m10, m11, m12, m13, m14, m15, m16, 34] (fldsK 8) = ((8 :: t).drop 22).take 12 := encF_reads hB (fldsK 8) 22 (show Reads _ [(8 : Int), m1, m2, m3, m4, m5, m6, m7, m8, m9, m10, m11, m12, m13, m14, m15, m16, 34] (fldsK 8) 22 from ⟨⟨e6.symm, by decide, by decide⟩, ⟨e7.symm, by decide, by decide⟩, trivial⟩) (by rw [hl]; decide)
  show encF [(8 : Int), m1, m2, m3, m4, m5, m6, m7, m8, m9, m10, m11, m12, m13, m14, m15, m16, 34] hdrF ++ encF [(8 : Int), m1, m2, m3, m4, m5, m6, m7, m8, m9, m10, m11, m12, m13, m14, m15, m16, 34] (fldsK 8) = _
  rw [h1, h2, List.drop_zero, List.take_of_length_le (l := (8 :: t).drop 22) (by rw [List.length_drop, hl]; decide), List.take_append_drop]
theorem enc_dec_11 {t : List Int} (hB : Bytes (11 :: t)) (hl : (11 :: t).length = 36) {m0 m1 m2 m3 m4 m5 m6 m7 m8 m9 m10 m11 m12 m13 m14 m15 m16 m17 : Int} (hM : decM 11 (11 :: t) = [m0, m1, m2, m3, m4, m5, m6, m7, m8, m9, m10, m11, m12, m13, m14, m15, m16, m17]) (h17 : m17 = 36) : encM m0 m1 m2 m3 m4 m5 m6 m7 m8 m9 m10 m11 m12 m13 m14 m15 m16 = 11 :: t := by
  have e : [rdV 1 false (((11 :: t).drop 0).take 1), rdV 1 false (((11 :: t).drop 1).take 1), rdV 8 true (((11 :: t).drop 4).take 8), rdV 6 false (((11 :: t).drop 12).take 6), rdV 2 false (((11 :: t).drop 18).take 2), rdV 2 false (((11 :: t).drop 20).take 2), 0, 0, 0, 0, rdV 1 false (((11 :: t).drop 22).take 1), rdV 1 false (((11 :: t).drop 23).take 1), rdV 1 false (((11 :: t).drop 24).take 1), rdV 2 false (((11 :: t).drop 25).take 2), rdV 1 false (((11 :: t).drop 27).take 1), rdV 6 false (((11 :: t).drop 28).take 6), rdV 2 false (((11 :: t).drop 34).take 2), rdV 2 false (((11 :: t).drop 2).take 2)] = [m0, m1, m2, m3, m4, m5, m6, m7, m8, m9, m10, m11, m12, m13, m14, m15, m16, m17] := hM
  simp only [List.cons.injEq] at e
  obtain ⟨e0, e1, e2, e3, e4, e5, e6, e7, e8, e9, e10, e11, e12, e13, e14, e15, e16, e17, _⟩ := e
  have h0 : m0 = 11 := e0.symm.trans (show wrap64 (uV [11]) = 11 by decide +kernel)
  subst h0
  have h1 : encF [(11 : Int), m1, m2, m3, m4, m5, m6, m7, m8, m9, m10, m11, m12, m13, m14, m15, m16, 36] hdrF = ((11 :: t).drop 0).take 22 := encF_reads hB hdrF 0 (show Reads _ [(11 : Int), m1, m2, m3, m4, m5, m6, m7, m8, m9, m10, m11, m12, m13, m14, m15, m16, 36] hdrF 0 from ⟨⟨e0.symm, by decide, by decide⟩, ⟨e1.symm, by decide, by decide⟩, ⟨(h17.symm.trans e17.symm), by decide, by decide⟩, ⟨e2.symm, by decide, by decide⟩, ⟨e3.symm, by decide, by decide⟩, ⟨e4.symm, by decide, by decide⟩, ⟨e5.symm, by decide, by decide⟩, trivial⟩) (by rw [hl]; decide)
  have h2 : encF [(11 : Int), m1, m2, m3, m4, m5, m6, m7, m8, m9, m10, m11, m12, m13, m14, m15, m16, 36] (fldsK 11) = ((11 :: t).drop 22).take 14 := encF_reads hB (fldsK 11) 22 (show Reads _ [(11 : Int), m1, m2, m3, m4, m5, m6, m7, m8, m9, m10, m11, m12, m13, m14, m15, m16, 36] (fldsK 11) 22 from ⟨⟨e10.symm, by decide, by decide⟩, ⟨e11.symm, by decide, by decide⟩, ⟨e12.symm, by decide, by decide⟩, ⟨e13.symm, by decide, by decide⟩, ⟨e14.symm, by decide, by decide⟩, ⟨e15.symm, by decide, by decide⟩, ⟨e16.symm, by decide, by decide⟩, trivial⟩) (by rw [hl]; decide)
  show encF [(11 : Int), m1, m2, m3, m4, m5, m6, m7, m8, m9, m10, m11, m12, m13, m14, m15, m16, 36] hdrF ++ encF [(11 : Int), m1, m2, m3, m4, m5, m6, m7, m8, m9, m10, m11, m12, m13, m14, m15, m16, 36] (fldsK 11) = _
  rw [h1, h2, List.drop_zero, List.take_of_length_le (l := (11 :: t).drop 22) (by rw [List.length_drop, hl]; decide), List.take_append_drop]

theorem enc_dec {L : List Int} (hB : Bytes L) (h : decErr L = 0) : ∃ K D C i p S T P r q a b c v e g s : Int, decRes L = [K, D, C, i, p, S, T, P, r, q, a, b, c, v, e, g, s] ∧ rgtB (baseB D C i p S) (kindB K T P r q a b c v e g s) = true ∧ encM K D C i p S T P r q a b c v e g s = L := by
  match L, h with
  | k :: t, h =>
    by_cases hg : sizeV k ≠ 0 ∧ ((k :: t).length : Int) = sizeV k
    · rw [decErr, if_pos hg, decE] at h
      by_cases ho : okM (decM k (k :: t)) (k :: t).length = true
      · rw [decRes, if_pos hg, decL, if_pos ho]
        obtain ⟨m0, m1, m2, m3, m4, m5, m6, m7, m8, m9, m10, m11, m12, m13, m14, m15, m16, m17, hM⟩ := eighteen (decM_len k (k :: t))
        rw [hM] at ho ⊢
        simp only [okM, Bool.and_eq_true, decide_eq_true_eq] at ho
        refine ⟨m0, m1, m2, m3, m4, m5, m6, m7, m8, m9, m10, m11, m12, m13, m14, m15, m16, rfl, ho.2, ?_⟩
        have h17 : m17 = sizeV k := ho.1.trans hg.2
        have hk : k = 0 ∨ k = 2 ∨ k = 3 ∨ k = 10 ∨ k = 8 ∨ k = 11 := by
          have h0 := hg.1
          unfold sizeV at h0
          (repeat' split at h0) <;> first | omega | exact absurd rfl h0
        rcases hk with rfl | rfl | rfl | rfl | rfl | rfl
        · exact enc_dec_0 hB (by have h2 : ((0 :: t).length : Int) = 22 := hg.2; omega) hM h17
        · exact enc_dec_2 hB (by have h2 : ((2 :: t).length : Int) = 22 := hg.2; omega) hM h17
        · exact enc_dec_3 hB (by have h2 : ((3 :: t).length : Int) = 38 := hg.2; omega) hM h17
        · exact enc_dec_10 hB (by have h2 : ((10 :: t).length : Int) = 38 := hg.2; omega) hM h17
        · exact enc_dec_8 hB (by have h2 : ((8 :: t).length : Int) = 34 := hg.2; omega) hM h17
        · exact enc_dec_11 hB (by have h2 : ((11 :: t).length : Int) = 36 := hg.2; omega) hM h17
      · rw [if_neg ho] at h
        cases h
    · rw [decErr, if_neg hg] at h
      cases h
end Go.Proofs.Ytecengclcaodeaa
