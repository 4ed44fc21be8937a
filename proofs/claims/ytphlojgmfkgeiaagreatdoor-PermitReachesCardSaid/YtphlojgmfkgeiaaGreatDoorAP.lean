/- Acts and their play, in plain words. -/
import Derived.Test.YtphlojgmfkgeiaaGreatDoorXA
import Derived.Test.YtphlojgmfkgeiaaGreatDoorKo
namespace Go.Proofs.YtphlojgmfkgeiaaGreatDoor
open Go.RowKit Go.Sort Go.Shelf
/-- The error of an act. -/
def actE (y : Yd) (x : Ac) : Int :=
  if x.k.toList == grantW then grantE y x.n x.s
  else if x.k.toList == moveW || x.k.toList == returnW then
    (if !(x.s.toList == []) then 1 else if x.k.toList == moveW then moveE y x.n else retE y x.n)
  else 13
/-- The yard behind an act without an error. -/
def actY (y : Yd) (x : Ac) : Yd := if x.k.toList == grantW then grantY y x.n x.s else if x.k.toList == moveW then y.mv (atB y x.n).toNat else retY y x.n
def playGo : Yd → Nat → List Ac → Yd × Nat × Int
  | z, _, [] => (z, 0, 0)
  | z, i, x :: r => if actE z x = 0 then playGo (actY z x) (i + 1) r else (nilY, i, actE z x)
theorem playGo_nil (z : Yd) (i : Nat) : playGo z i [] = (z, 0, 0) := rfl
theorem playGo_ok {z : Yd} {x : Ac} (h : actE z x = 0) (i : Nat) (r : List Ac) : playGo z i (x :: r) = playGo (actY z x) (i + 1) r := if_pos h
theorem playGo_no {z : Yd} {x : Ac} (h : actE z x ≠ 0) (i : Nat) (r : List Ac) : playGo z i (x :: r) = (nilY, i, actE z x) := if_neg h
/-- What Play gives. -/
def plHead (y : Yd) (n : Nat) : Int := or0 (yardE y) (whenE (decide (64 < (n : Int))) 5)
def playR (y : Yd) (l : List Ac) : Yd × Nat × Int := if plHead y l.length = 0 then playGo y 0 l else (nilY, 0, plHead y l.length)
theorem fits_grant {y : Yd} {nm sc : ByteArray} (h : Fits y) (hn : nm.size ≤ maxLen) (hp : (grantY y nm sc).p.length ≤ 9) : Fits (grantY y nm sc) :=
  ⟨h.s9, h.w9, hp, h.sn, h.wn, fun x hx => by
    rcases List.mem_append.1 hx with hx | hx
    · exact h.pn x hx
    · simp at hx
      subst hx
      exact hn⟩
theorem fits_ret {y : Yd} {nm : ByteArray} (h : Fits y) : Fits (retY y nm) :=
  ⟨h.s9, h.w9, Nat.le_trans (List.eraseIdx_sublist ..).length_le h.p9, h.sn, h.wn, fun x hx => h.pn x ((List.eraseIdx_sublist ..).subset hx)⟩
theorem act_ok {y : Yd} {x : Ac} (h : actE y x = 0) : yardE (actY y x) = 0 := by
  unfold actE at h
  unfold actY
  split at h
  · rename_i hk
    rw [if_pos hk]
    exact (grant_ok h).2.1
  · rename_i hk
    rw [if_neg hk]
    split at h
    · split at h
      · cases h
      · split at h
        · rename_i hm
          rw [if_pos hm]
          exact (move_ok h).2.2
        · rename_i hm
          rw [if_neg hm]
          exact (ret_ok h).1
    · cases h
theorem act_fits {y : Yd} {x : Ac} (hF : Fits y) (hn : x.n.size ≤ maxLen) (h : actE y x = 0) : Fits (actY y x) := by
  have h2 := act_ok h
  have h8 := (yard_ok h2).1.p8
  unfold actY at h8 ⊢
  split
  · rename_i hk
    rw [if_pos hk] at h8
    exact fits_grant hF hn (by omega)
  · split
    · exact fits_mv hF _
    · exact fits_ret hF
end Go.Proofs.YtphlojgmfkgeiaaGreatDoor
