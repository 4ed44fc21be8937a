/- Acts: what the laws say of them; in plain words. -/
import Derived.Test.YtphlojgmfkgeiaaGreatDoorRP
namespace Go.Proofs.YtphlojgmfkgeiaaGreatDoor
theorem chkGo_iff : ∀ (l : List (ByteArray × Int)) (b : List ByteArray), chkGo b l = 0 ↔ (∀ q ∈ l, nameE q.1 = 0 ∧ q.2 = 0 ∧ hasW b q.1 = false) ∧ l.Pairwise (fun p q => (p.1.toList == q.1.toList) = false)
  | [], b => by simp [chkGo]
  | (s, e) :: r, b => by
    have hone : chkOne b s e = 0 ↔ nameE s = 0 ∧ e = 0 ∧ hasW b s = false := by
      unfold chkOne
      constructor
      · intro h
        obtain ⟨h1, h2⟩ := first2_zeroV h
        obtain ⟨h3, h4⟩ := first2_zeroV h1
        exact ⟨h3, h2, whenE_zero (by decide) h4⟩
      · rintro ⟨h1, h2, h3⟩
        rw [h1, h2, h3]
        rfl
    have hb : ∀ q : ByteArray × Int, hasW (b ++ [s]) q.1 = false ↔ hasW b q.1 = false ∧ (s.toList == q.1.toList) = false := fun q => by
      unfold hasW
      rw [List.any_append]
      simp
    unfold chkGo
    constructor
    · intro h
      split at h
      · rename_i h'
        obtain ⟨g1, g2⟩ := (chkGo_iff r _).1 h
        obtain ⟨o1, o2, o3⟩ := hone.1 h'
        refine ⟨fun q hq => ?_, List.pairwise_cons.2 ⟨fun q hq => ((hb q).1 (g1 q hq).2.2).2, g2⟩⟩
        rcases List.mem_cons.1 hq with rfl | hq
        · exact ⟨o1, o2, o3⟩
        · have := g1 q hq
          exact ⟨this.1, this.2.1, ((hb q).1 this.2.2).1⟩
      · rename_i h'; exact absurd h h'
    · rintro ⟨g1, g2⟩
      obtain ⟨p1, p2⟩ := List.pairwise_cons.1 g2
      rw [if_pos (hone.2 (g1 _ (List.mem_cons_self ..)))]
      refine (chkGo_iff r _).2 ⟨fun q hq => ?_, p2⟩
      have := g1 q (List.mem_cons_of_mem _ hq)
      exact ⟨this.1, this.2.1, (hb q).2 ⟨this.2.2, p1 q hq⟩⟩
theorem chkAll_iff (l : List (ByteArray × Int)) : chkAll l = 0 ↔ l.length ≤ 8 ∧ (∀ q ∈ l, nameE q.1 = 0 ∧ q.2 = 0) ∧ l.Pairwise (fun p q => (p.1.toList == q.1.toList) = false) := by
  unfold chkAll
  constructor
  · intro h
    split at h
    · cases h
    · obtain ⟨h1, h2⟩ := (chkGo_iff l []).1 h
      exact ⟨by omega, fun q hq => ⟨(h1 q hq).1, (h1 q hq).2.1⟩, h2⟩
  · rintro ⟨h0, h1, h2⟩
    rw [if_neg (by omega)]
    exact (chkGo_iff l []).2 ⟨fun q hq => ⟨(h1 q hq).1, (h1 q hq).2, rfl⟩, h2⟩
theorem parts_split {y : Yd} : partsE y = 0 ↔ (y.s.isEmpty = false ∧ secChk y.s = 0 ∧ swChk y.s.length y.w = 0) ∧ pmChk y.s.length y.p = 0 := by
  unfold partsE
  constructor
  · intro h
    obtain ⟨h0, h⟩ := or0_zero h
    obtain ⟨h1, h⟩ := or0_zero h
    obtain ⟨h2, h3⟩ := or0_zero h
    exact ⟨⟨whenE_zero (by decide) h0, h1, h2⟩, h3⟩
  · rintro ⟨⟨h0, h1, h2⟩, h3⟩
    rw [h0, h1, h2, h3]
    rfl
def pmQ (n : Nat) (l : List Pm) : Prop := l.length ≤ 8 ∧ (∀ x ∈ l, nameE x.n = 0 ∧ hasN n x.s = true) ∧ l.Pairwise (fun p q => (p.n.toList == q.n.toList) = false)
theorem pmChk_iff {n : Nat} {l : List Pm} : pmChk n l = 0 ↔ pmQ n l := by
  unfold pmChk pmQ
  rw [chkAll_iff, List.length_map, List.pairwise_map]
  refine and_congr Iff.rfl (and_congr ?_ Iff.rfl)
  constructor
  · intro h x hx
    have := h (x.n, whenE (!hasN n x.s) 10) (List.mem_map.2 ⟨x, hx, rfl⟩)
    exact ⟨this.1, by have := whenE_zero (by decide) this.2; simpa using this⟩
  · intro h q hq
    obtain ⟨x, hx, rfl⟩ := List.mem_map.1 hq
    have := h x hx
    refine ⟨this.1, ?_⟩
    show whenE (!hasN n x.s) 10 = 0
    rw [this.2]; rfl
/-- The permit with a name. -/
def pmAt (y : Yd) (nm : ByteArray) : Int := idxP (fun x : Pm => x.n.toList == nm.toList) 0 y.p
def retE (y : Yd) (nm : ByteArray) : Int := or0 (yardE y) (whenE (decide (pmAt y nm < 0)) 10)
def retY (y : Yd) (nm : ByteArray) : Yd := { y with p := y.p.eraseIdx (pmAt y nm).toNat }
theorem pmAt_bd (y : Yd) (nm : ByteArray) : -1 ≤ pmAt y nm ∧ (0 ≤ pmAt y nm → pmAt y nm < y.p.length) := by
  rcases idxP_bd (fun x : Pm => x.n.toList == nm.toList) y.p 0 with h | ⟨h, e⟩
  · unfold pmAt; omega
  · unfold pmAt; omega
theorem sound_of {y : Yd} : soundB y = true ↔ shortB y = false ∧ openB y = false := by
  unfold soundB
  cases shortB y <;> cases openB y <;> simp
theorem open_sub {y : Yd} {l : List Pm} (h : openB y = false) (hl : ∀ x ∈ l, x ∈ y.p) : openB { y with p := l } = false := by
  unfold openB at h ⊢
  rw [List.any_eq_false] at h ⊢
  exact fun x hx => h x (hl x hx)
theorem ret_ok {y : Yd} {nm : ByteArray} (h : retE y nm = 0) : yardE (retY y nm) = 0 ∧ (retY y nm).p.length + 1 = y.p.length := by
  obtain ⟨h1, h2⟩ := or0_zero h
  have h3 := whenE_zero (by decide) h2
  have h4 := pmAt_bd y nm
  have h5 : 0 ≤ pmAt y nm := by simpa using h3
  obtain ⟨p1, s1⟩ := yardE_zero.1 h1
  obtain ⟨c1, c2⟩ := parts_split.1 p1
  obtain ⟨q1, q2, q3⟩ := pmChk_iff.1 c2
  have hlen : (retY y nm).p.length + 1 = y.p.length := by
    show (y.p.eraseIdx _).length + 1 = _
    rw [List.length_eraseIdx, if_pos (by omega)]
    omega
  have hsub : (y.p.eraseIdx (pmAt y nm).toNat).Sublist y.p := List.eraseIdx_sublist ..
  refine ⟨yardE_zero.2 ⟨parts_split.2 ⟨c1, pmChk_iff.2 ⟨by show (retY y nm).p.length ≤ 8; omega, fun x hx => q2 x (hsub.subset hx), q3.sublist hsub⟩⟩, ?_⟩, hlen⟩
  obtain ⟨s2, s3⟩ := sound_of.1 s1
  exact sound_of.2 ⟨s2, open_sub s3 fun x hx => hsub.subset hx⟩
theorem grant_ok {y : Yd} {nm sc : ByteArray} (h : grantE y nm sc = 0) : yardE y = 0 ∧ yardE (grantY y nm sc) = 0 ∧ 0 ≤ secAtB y sc := by
  unfold grantE at h
  obtain ⟨h1, h⟩ := or0_zero h
  obtain ⟨h2, h3⟩ := or0_zero h
  unfold gr1E at h1
  obtain ⟨g1, g2⟩ := first2_zeroV h1
  obtain ⟨g3, g4⟩ := first2_zeroV g2
  unfold gr2E at h3
  obtain ⟨g5, g6⟩ := first2_zeroV h3
  have g4 := whenE_zero (by decide) g4
  have g5 := whenE_zero (by decide) g5
  have g6 := whenE_zero (by decide) g6
  have h2 := whenE_zero (by decide) h2
  have h5 : 0 ≤ secAtB y sc := by simpa using h2
  obtain ⟨p1, s1⟩ := yardE_zero.1 g1
  obtain ⟨c1, c2⟩ := parts_split.1 p1
  obtain ⟨q1, q2, q3⟩ := pmChk_iff.1 c2
  have hin := (secAtB_bd y sc).2 h5
  refine ⟨g1, yardE_zero.2 ⟨parts_split.2 ⟨c1, pmChk_iff.2 ⟨?_, fun x hx => ?_, ?_⟩⟩, ?_⟩, h5⟩
  · show (y.p ++ [_]).length ≤ 8
    have : ¬ (8 : Int) ≤ (y.p.length : Int) := by simpa using g6
    simp; omega
  · rcases List.mem_append.1 hx with hx | hx
    · exact q2 x hx
    · simp at hx
      subst hx
      exact ⟨g3, hasN_iff.2 (mem_rng.1 hin)⟩
  · show (y.p ++ [_]).Pairwise _
    rw [List.pairwise_append]
    refine ⟨q3, by simp, fun x hx z hz => ?_⟩
    simp at hz
    subst hz
    unfold hasW at g4
    rw [List.any_map, List.any_eq_false] at g4
    have := g4 x hx
    simpa using this
  · obtain ⟨s2, s3⟩ := sound_of.1 s1
    refine sound_of.2 ⟨s2, ?_⟩
    show List.any (y.p ++ [_]) _ = false
    rw [List.any_append]
    have e1 : secB (grantY y nm sc) (secAtB y sc) = true := (show secB y (secAtB y sc) = true by simpa using g5)
    have e2 : (y.p.any fun x => !secB (grantY y nm sc) x.s) = false := s3
    rw [e2]
    simp [e1]
theorem move_ok {y : Yd} {nm : ByteArray} (h : moveE y nm = 0) : yardE y = 0 ∧ (atB y nm).toNat < y.w.length ∧ yardE (y.mv (atB y nm).toNat) = 0 := by
  obtain ⟨h1, h2⟩ := or0_zero h
  obtain ⟨g1, g2, g3, g4⟩ := findE_zero h1
  have h3 := whenE_zero (by decide) h2
  refine ⟨g1, g4, yardE_zero.2 ⟨by rw [partsE_mv, (yardE_zero.1 g1).1], why_sound g4 (by simpa using h3)⟩⟩
/-- Moved twice is not moved. -/
theorem mv_mv (y : Yd) (i : Nat) : (y.mv i).mv i = y := by
  obtain ⟨s, w, p⟩ := y
  show (⟨s, moved (moved w i) i, p⟩ : Yd) = _
  congr 1
  unfold moved
  rw [List.modify_modify_eq]
  refine List.ext_getElem (by simp) fun j h1 h2 => ?_
  rw [List.getElem_modify]
  split
  · simp
  · rfl
theorem move_back {y : Yd} {nm : ByteArray} (h : moveE y nm = 0) : (moveE (y.mv (atB y nm).toNat) nm = 0 ∨ moveE (y.mv (atB y nm).toNat) nm = 21) ∧ atB (y.mv (atB y nm).toNat) nm = atB y nm := by
  obtain ⟨g1, g2, g3⟩ := move_ok h
  obtain ⟨h1, _⟩ := or0_zero h
  obtain ⟨_, _, g4, _⟩ := findE_zero h1
  refine ⟨?_, atB_mv y _ nm⟩
  unfold moveE findE
  rw [g3, atB_mv]
  have e : decide (atB y nm < 0) = false := by simp; omega
  rw [e]
  cases (whyN (y.mv (atB y nm).toNat) (atB y nm).toNat == 0)
  · exact .inr rfl
  · exact .inl rfl
/-- Acts. -/
def moveW : List UInt8 := [109, 111, 118, 101]
def grantW : List UInt8 := [103, 114, 97, 110, 116]
def returnW : List UInt8 := [114, 101, 116, 117, 114, 110]
end Go.Proofs.YtphlojgmfkgeiaaGreatDoor
