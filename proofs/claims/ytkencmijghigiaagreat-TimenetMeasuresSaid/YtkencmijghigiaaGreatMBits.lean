/-
  The walks of math/bits: Len64, LeadingZeros64, Div64 (at a divisor of at most 2^50).
-/
import Derived.Laws.Bits64b
import Derived.Lib.BitFns
import Derived.Lib.Strings
import Derived.Lib.Slices
import Derived.Lib.Small
import Derived.Lib.Walk
import Derived.BigQuiet
import Derived.Deep.QuietTactic
import Derived.Deep.LoopGhost
import Derived.Test.YtkencmijghigiaaGreatMBase
namespace Go.Proofs.YtkencmijghigiaaGreat
open Go.RowKit Go.Lib

set_option maxRecDepth 100000 in
theorem len8tab_size' : (Lib.len8tab.size : Int) = 256 := by
  have : Lib.len8tab.size = 256 := by decide
  omega
theorem len8_add (k a b : Nat) (hk : k ≤ 56) (ha : a ≤ 8) (hb : b = k + a) : RowKit.wrap64 ((k : Int) + RowKit.wrap64 (a : Int)) = (b : Int) := by
  unfold RowKit.wrap64
  omega
theorem len8_wrap (a : Nat) (ha : a ≤ 8) : RowKit.wrap64 (RowKit.wrap64 (a : Int)) = (a : Int) := by
  unfold RowKit.wrap64
  omega
/-- The table's byte, as an index's plain meaning reads it. -/
theorem len8_get' (y : Int) (h : y.toNat < Lib.len8tab.size) : ((Lib.len8tab[y.toNat]'h).toNat : Int) = Lib.len8 y := by
  unfold Lib.len8
  rw [getElem?_pos Lib.len8tab y.toNat h]
  rfl

set_option maxHeartbeats 4000000 in
set_option maxRecDepth 100000 in
/-- bits.Len64. -/
theorem len64_any (x : Int) (w : World) (h0 : 0 ≤ x) (h1 : x ≤ 18446744073709551615) :
    Calls Tryz.prog 104 #[.int .u64 x] w fun e w' => e = .returned (.int .i64 (Lib.bitLen x.toNat)) ∧ w = w' := by
  go_enter Tryz.func104, Tryz.ntmps104
  go_wp2
  all_goals first
    | (go_ret; refine ⟨congrArg Ending.returned (congrArg (Value.int IntKind.i64) ?_), rfl⟩)
    | (exfalso
       have hs := len8tab_size'
       omega)
  all_goals first
    | (rw [len8_get' (x / 4294967296 / 65536 / 256) _, Lib.len8_of (x / 4294967296 / 65536 / 256) (by omega) (by omega)]
       have e : (x / 4294967296 / 65536 / 256).toNat = x.toNat / 72057594037927936 := by omega
       have l := Lib.bitLen_le8' (x / 4294967296 / 65536 / 256) (by omega) (by omega)
       have s := Lib.bitLen_shift56 x.toNat (by omega) (by omega)
       rw [e] at l ⊢
       exact len8_add 56 _ _ (by decide) l s)
    | (rw [len8_get' (x / 4294967296 / 65536) _, Lib.len8_of (x / 4294967296 / 65536) (by omega) (by omega)]
       have e : (x / 4294967296 / 65536).toNat = x.toNat / 281474976710656 := by omega
       have l := Lib.bitLen_le8' (x / 4294967296 / 65536) (by omega) (by omega)
       have s := Lib.bitLen_shift48 x.toNat (by omega) (by omega)
       rw [e] at l ⊢
       exact len8_add 48 _ _ (by decide) l s)
    | (rw [len8_get' (x / 4294967296 / 256) _, Lib.len8_of (x / 4294967296 / 256) (by omega) (by omega)]
       have e : (x / 4294967296 / 256).toNat = x.toNat / 1099511627776 := by omega
       have l := Lib.bitLen_le8' (x / 4294967296 / 256) (by omega) (by omega)
       have s := Lib.bitLen_shift40 x.toNat (by omega) (by omega)
       rw [e] at l ⊢
       exact len8_add 40 _ _ (by decide) l s)
    | (rw [len8_get' (x / 4294967296) _, Lib.len8_of (x / 4294967296) (by omega) (by omega)]
       have e : (x / 4294967296).toNat = x.toNat / 4294967296 := by omega
       have l := Lib.bitLen_le8' (x / 4294967296) (by omega) (by omega)
       have s := Lib.bitLen_shift32 x.toNat (by omega) (by omega)
       rw [e] at l ⊢
       exact len8_add 32 _ _ (by decide) l s)
    | (rw [len8_get' (x / 65536 / 256) _, Lib.len8_of (x / 65536 / 256) (by omega) (by omega)]
       have e : (x / 65536 / 256).toNat = x.toNat / 16777216 := by omega
       have l := Lib.bitLen_le8' (x / 65536 / 256) (by omega) (by omega)
       have s := Lib.bitLen_shift24 x.toNat (by omega) (by omega)
       rw [e] at l ⊢
       exact len8_add 24 _ _ (by decide) l s)
    | (rw [len8_get' (x / 65536) _, Lib.len8_of (x / 65536) (by omega) (by omega)]
       have e : (x / 65536).toNat = x.toNat / 65536 := by omega
       have l := Lib.bitLen_le8' (x / 65536) (by omega) (by omega)
       have s := Lib.bitLen_shift16 x.toNat (by omega) (by omega)
       rw [e] at l ⊢
       exact len8_add 16 _ _ (by decide) l s)
    | (rw [len8_get' (x / 256) _, Lib.len8_of (x / 256) (by omega) (by omega)]
       have e : (x / 256).toNat = x.toNat / 256 := by omega
       have l := Lib.bitLen_le8' (x / 256) (by omega) (by omega)
       have s := Lib.bitLen_shift8 x.toNat (by omega) (by omega)
       rw [e] at l ⊢
       exact len8_add 8 _ _ (by decide) l s)
    | (rw [len8_get' x _, Lib.len8_of x (by omega) (by omega)]
       exact len8_wrap _ (Lib.bitLen_le8' x (by omega) (by omega)))

/-- bits.LeadingZeros64. -/
theorem leadingZeros64_any (x : Int) (w : World) (h0 : 0 ≤ x) (h1 : x ≤ 18446744073709551615) :
    Calls Tryz.prog 103 #[.int .u64 x] w fun e w' => e = .returned (.int .i64 (64 - (Lib.bitLen x.toNat : Int))) ∧ w = w' := by
  have l := Lib.bitLen_le x.toNat 64 (by omega) (by omega)
  go_enter Tryz.func103, Tryz.ntmps103
  go_wp2_with (go_at_call 104; refine (len64_any x _ h0 h1).mono ?_; rintro e w' ⟨rfl, rfl⟩)
  go_ret
  exact ⟨rfl, rfl⟩

/-- The high word is 0. -/
theorem div64_low (lo y : Int) (hl0 : 0 ≤ lo) (hl : lo < 18446744073709551616) (hy0 : 1 ≤ y) (hy : y < 18446744073709551616) (w : World) :
    Calls Tryz.prog 99 #[.int .u64 0, .int .u64 lo, .int .u64 y] w fun e w' => e = .returned (.tuple #[.int .u64 (lo / y), .int .u64 (lo % y)]) ∧ Below w.heap.size w w' := by
  have hc : (y == 0) = false := by simpa using (show ¬ y = 0 by omega)
  go_enter Tryz.func99, Tryz.ntmps99
  go_wp2
  go_quiet (fail)
  go_wp2
  go_ret2
  exact ⟨rfl, below_drewN (Below.refl _ _) _⟩

open Plain in
/-- What one round of the correction comes to. -/
theorem guess_cases {y1 y0 a b q r Q : Int} (f : Fit y1 y0 a b) (g : Guess y1 y0 a b q r) (hQ : Q = (a * 4294967296 + b) / (y1 * 4294967296 + y0)) :
    (q < 4294967296 ∧ q * y0 ≤ 4294967296 * r + b ∧ q = Q) ∨ (4294967296 ≤ q ∧ 4294967296 ≤ r + y1 ∧ q - 1 = Q) ∨ (q < 4294967296 ∧ 4294967296 * r + b < q * y0 ∧ 4294967296 ≤ r + y1 ∧ q - 1 = Q) ∨
    (4294967296 ≤ q ∧ r + y1 < 4294967296 ∧ Guess y1 y0 a b (q - 1) (r + y1)) ∨ (q < 4294967296 ∧ 4294967296 * r + b < q * y0 ∧ r + y1 < 4294967296 ∧ 1 ≤ q ∧ Guess y1 y0 a b (q - 1) (r + y1)) := by
  have hq1 := g.q1
  by_cases h1 : 4294967296 ≤ q
  · obtain ⟨e1, g'⟩ := g.less f (Or.inl h1)
    by_cases h2 : 4294967296 ≤ r + y1
    · exact .inr (.inl ⟨h1, h2, by rw [hQ]; exact g'.out f (by omega) h2⟩)
    · exact .inr (.inr (.inr (.inl ⟨h1, by omega, g'⟩)))
  · by_cases h3 : 4294967296 * r + b < q * y0
    · obtain ⟨e1, g'⟩ := g.less f (Or.inr h3)
      by_cases h2 : 4294967296 ≤ r + y1
      · exact .inr (.inr (.inl ⟨by omega, h3, h2, by rw [hQ]; exact g'.out f (by omega) h2⟩))
      · exact .inr (.inr (.inr (.inr ⟨by omega, h3, by omega, e1, g'⟩)))
    · exact .inl ⟨by omega, by omega, by rw [hQ]; exact g.done f (by omega)⟩

open Plain in
set_option maxHeartbeats 4000000 in
/-- The high word is not 0: the two digits, by the school's division. -/
theorem div64_core (hi lo y : Int) (hh0 : 1 ≤ hi) (hh : hi < y) (_hl0 : 0 ≤ lo) (_hl : lo < 18446744073709551616) (hyy0 : 1 ≤ y) (hyy : y ≤ 1125899906842624) (w : World)
    (Y y1 y0 U V u1 u0 Q1 R Q0 S : Int) (hY : IntKind.u64.wrap (y * 2 ^ (64 - Lib.bitLen y.toNat)) = Y) (hy1 : Y / 4294967296 = y1) (hy0 : bits .and .u64 Y 4294967295 = y0)
    (hU : bits .or .u64 (IntKind.u64.wrap (hi * 2 ^ (64 - Lib.bitLen y.toNat))) (lo / 2 ^ (64 - (64 - Lib.bitLen y.toNat))) = U)
    (hV : IntKind.u64.wrap (lo * 2 ^ (64 - Lib.bitLen y.toNat)) = V) (hu1 : V / 4294967296 = u1) (hu0 : bits .and .u64 V 4294967295 = u0)
    (hR : IntKind.u64.wrap (IntKind.u64.wrap (IntKind.u64.wrap (U * 4294967296) + u1) - IntKind.u64.wrap (Q1 * Y)) = R)
    (hS : IntKind.u64.wrap (IntKind.u64.wrap (IntKind.u64.wrap (R * 4294967296) + u0) - IntKind.u64.wrap (Q0 * Y)) = S)
    (f1 : Fit y1 y0 U u1) (f2 : Fit y1 y0 R u0) (HQ1 : Hid (Q1 = (U * 4294967296 + u1) / (y1 * 4294967296 + y0))) (HQ0 : Hid (Q0 = (R * 4294967296 + u0) / (y1 * 4294967296 + y0))) :
    Calls Tryz.prog 99 #[.int .u64 hi, .int .u64 lo, .int .u64 y] w fun e w' => e = .returned (.tuple #[.int .u64 (Q1 * 4294967296 + Q0), .int .u64 (S / 2 ^ (64 - Lib.bitLen y.toNat))]) ∧ Below w.heap.size w w' := by
  have hc : (y == 0) = false := by simpa using (show ¬ y = 0 by omega)
  have hd : (hi == 0) = false := by simpa using (show ¬ hi = 0 by omega)
  have l1 := Lib.bitLen_le y.toNat 51 (by omega) (by omega)
  obtain ⟨b1, b2, b3, b4, b5, b6, b7, b8⟩ := id f1
  obtain ⟨_, _, _, _, b9, b10, b11, b12⟩ := id f2
  have d1 : 0 ≤ Q1 ∧ Q1 < 4294967296 := by rw [HQ1.out]; exact f1.digit
  have d2 : 0 ≤ Q0 ∧ Q0 < 4294967296 := by rw [HQ0.out]; exact f2.digit
  obtain ⟨d1a, d1b⟩ := d1
  obtain ⟨d2a, d2b⟩ := d2
  have g1 := Guess.first f1
  have g2 := Guess.first f2
  obtain ⟨p1, p2, p3, p4, p5⟩ := Guess.fits f1 g1
  obtain ⟨p6, p7, p8, p9, p10⟩ := Guess.fits f2 g2
  have k1 := g1.q0
  have k2 := g1.q1
  have k3 := g2.q0
  have k4 := g2.q1
  have r1 : U - U / y1 * y1 < 4294967296 := by
    have h := div_hi (x := U) (y := y1) (by omega)
    rw [Int.add_mul] at h
    omega
  have r2 : R - R / y1 * y1 < 4294967296 := by
    have h := div_hi (x := R) (y := y1) (by omega)
    rw [Int.add_mul] at h
    omega
  go_enter Tryz.func99, Tryz.ntmps99
  go_wp2_with (go_at_call 103; refine (leadingZeros64_any y _ (by omega) (by omega)).mono ?_; rintro e w' ⟨rfl, rfl⟩)
  go_loop [15, 16] (fun q r => ∃ a b : Int, q = .int .u64 a ∧ r = .int .u64 b ∧ Guess y1 y0 U u1 a b ∧ b < 4294967296) (fun q _ => (RowKit.intOf q).toNat)
  case atStart => exact ⟨_, _, rfl, rfl, g1, r1⟩
  case round =>
    obtain ⟨q, r, rfl, rfl, g, hr⟩ := hrel
    obtain ⟨c1, c2, c3, c4, c5⟩ := Guess.fits f1 g
    have c6 := g.q0
    have c7 := g.q1
    have c8 := g.r0
    clear g1 p1 p2 p3 p4 r1 k1 k2
    rcases guess_cases f1 g HQ1.out with ⟨m1, m2, rfl⟩ | ⟨m1, m2, m3⟩ | ⟨m1, m2, m3, m4⟩ | ⟨m1, m2, m3⟩ | ⟨m1, m2, m3, m4, m5⟩
    case inr.inr.inr.inl =>
      go_wp2
      go_round
      case rel => exact ⟨_, _, rfl, rfl, m3, m2⟩
      case measure => simp [RowKit.intOf]; omega
    case inr.inr.inr.inr =>
      go_wp2
      go_round
      case rel => exact ⟨_, _, rfl, rfl, m5, m3⟩
      case measure => simp [RowKit.intOf]; omega
    all_goals
      go_wp2
      go_loop [18, 16] (fun q r => ∃ a b : Int, q = .int .u64 a ∧ r = .int .u64 b ∧ Guess y1 y0 R u0 a b ∧ b < 4294967296) (fun q _ => (RowKit.intOf q).toNat)
      case atStart => exact ⟨_, _, rfl, rfl, g2, r2⟩
      case round =>
        obtain ⟨q', r', rfl, rfl, g', hr'⟩ := hrel
        obtain ⟨c1', c2', c3', c4', c5'⟩ := Guess.fits f2 g'
        have c6' := g'.q0
        have c7' := g'.q1
        have c8' := g'.r0
        clear g2 p6 p7 p8 p9 r2 k3 k4
        rcases guess_cases f2 g' HQ0.out with ⟨n1, n2, rfl⟩ | ⟨n1, n2, n3⟩ | ⟨n1, n2, n3, n4⟩ | ⟨n1, n2, n3⟩ | ⟨n1, n2, n3, n4, n5⟩
        case inr.inr.inr.inl =>
          go_wp2
          go_round
          case rel => exact ⟨_, _, rfl, rfl, n3, n2⟩
          case measure => simp [RowKit.intOf]; omega
        case inr.inr.inr.inr =>
          go_wp2
          go_round
          case rel => exact ⟨_, _, rfl, rfl, n5, n3⟩
          case measure => simp [RowKit.intOf]; omega
        all_goals
          go_wp2
          go_ret2
          exact ⟨rfl, Below.refl _ _⟩

end Go.Proofs.YtkencmijghigiaaGreat
