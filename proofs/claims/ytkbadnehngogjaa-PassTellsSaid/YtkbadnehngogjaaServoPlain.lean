/-
  The plain law of a servo: its time, and the least local time at which a time is reached. No program in sight.
-/
import Derived.Test.YtkbadnehngogjaaSpan
namespace Go.Proofs.Ytkbadnehngogjaa.Plain

/-- A servo's time at a local time. -/
def atV (L M P l : Int) : Int := M + (l - L) + share (l - L) P

theorem at_mono {L M P l k : Int} (h : l ≤ k) (hP : -1000000000 ≤ P) : atV L M P l ≤ atV L M P k := by
  have := grow_mono (x := l - L) (y := k - L) (p := P) (by omega) hP
  unfold atV
  omega

/-- Local, Master and Ppb of a valid servo. -/
def OkS (L M P : Int) : Prop := -4398046511104 ≤ L ∧ L ≤ 4398046511104 ∧ -4398046511104 ≤ M ∧ M ≤ 4398046511104 ∧ -8388608 ≤ P ∧ P ≤ 8388608
instance (L M P : Int) : Decidable (OkS L M P) := inferInstanceAs (Decidable (_ ∧ _))
/-- A valid time. -/
def Stamp (t : Int) : Prop := -4398046511104 ≤ t ∧ t ≤ 4398046511104
instance (t : Int) : Decidable (Stamp t) := inferInstanceAs (Decidable (_ ∧ _))
def okS (L M P : Int) : Bool := decide (OkS L M P)
def chkV (L M P : Int) : Int := if OkS L M P then 0 else 230
def timeV (L M P l : Int) : Int := if OkS L M P ∧ Stamp l then atV L M P l else 0
def timeE (L M P l : Int) : Int := if OkS L M P then if Stamp l then 0 else 2 else 230

theorem at_bd {L M P l : Int} (h : OkS L M P) (hl : Stamp l) : -14000000000000 ≤ atV L M P l ∧ atV L M P l ≤ 14000000000000 ∧ -300000000000 ≤ share (l - L) P ∧ share (l - L) P ≤ 300000000000 := by
  obtain ⟨h1, h2, h3, h4, h5, h6⟩ := h
  obtain ⟨k1, k2⟩ := hl
  have := part_bd (x := l - L) (p := P) (by omega) (by omega) (by omega) (by omega)
  unfold atV
  omega

/-- The arguments of Sync are allowed. -/
def SyncOk (L M P l m p : Int) : Prop := OkS L M P ∧ L ≤ l ∧ OkS l m p
instance (L M P l m p : Int) : Decidable (SyncOk L M P l m p) := inferInstanceAs (Decidable (_ ∧ _))
def syncL (L M P l m p : Int) : Int := if SyncOk L M P l m p then l else 0
def syncM (L M P l m p : Int) : Int := if SyncOk L M P l m p then m else 0
def syncP (L M P l m p : Int) : Int := if SyncOk L M P l m p then p else 0
def syncN (L M P l m p : Int) : Int := if SyncOk L M P l m p then m - atV L M P l else 0
def syncE (L M P l m p : Int) : Int := if OkS L M P then if SyncOk L M P l m p then 0 else 2 else 230

/-- The arguments of Bound are allowed. -/
def LimOk (e x r : Int) : Prop := 0 ≤ e ∧ e ≤ 4398046511104 ∧ 0 ≤ x ∧ x ≤ 4398046511104 ∧ 0 ≤ r ∧ r ≤ 8388608
instance (e x r : Int) : Decidable (LimOk e x r) := inferInstanceAs (Decidable (_ ∧ _))
def boundV (e x r : Int) : Int := e - share (-x) (r + 82) + 3

end Go.Proofs.Ytkbadnehngogjaa.Plain
