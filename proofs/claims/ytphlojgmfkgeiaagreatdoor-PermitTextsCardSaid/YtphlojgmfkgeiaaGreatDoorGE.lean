/- Small facts for the laws: a goal's error; the yard of nothing. -/
import Derived.Test.YtphlojgmfkgeiaaGreatDoorKm
import Derived.Test.YtphlojgmfkgeiaaGreatDoorKh
namespace Go.Proofs.YtphlojgmfkgeiaaGreatDoor
open Go.RowKit Go.Sort Go.Shelf
def goal2 (y : Yd) (gk gs : ByteArray) : Int := firstE [whenE (!goalB gk) 13, whenE (decide (secAtB y gs < 0)) 10]
theorem goalE_or (y : Yd) (gk gs : ByteArray) : goalE y gk gs = or0 (yardE y) (goal2 y gk gs) := by
  unfold goalE goal2
  rw [firstE_cons]
theorem goal2_zero {y : Yd} {gk gs : ByteArray} (h : goal2 y gk gs = 0) : goalB gk = true ∧ 0 ≤ secAtB y gs := by
  obtain ⟨h1, h2⟩ := first2_zeroV h
  have h1 := whenE_zero (by decide) h1
  have h2 := whenE_zero (by decide) h2
  exact ⟨by simpa using h1, by simpa using h2⟩
def nilY : Yd := ⟨[], [], []⟩
theorem nil_yd (w : World) (B : Nat) : YdAt w B none none none 0 0 0 nilY := ⟨Reads.nil_, Reads.nil_, Reads.nil_⟩
end Go.Proofs.YtphlojgmfkgeiaaGreatDoor
