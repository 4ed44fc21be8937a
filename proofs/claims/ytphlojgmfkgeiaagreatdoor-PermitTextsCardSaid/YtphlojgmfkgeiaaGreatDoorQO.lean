/- What is printed is parsed; in plain words. -/
import Derived.Test.YtphlojgmfkgeiaaGreatDoorQN
import Derived.Test.YtphlojgmfkgeiaaGreatDoorKl
import Derived.Test.YtphlojgmfkgeiaaGreatDoorNA
namespace Go.Proofs.YtphlojgmfkgeiaaGreatDoor
open Go.RowKit Go.Sort Go.Shelf
theorem scan_free {c : UInt8} (h1 : letterB c = false) (h2 : tailB c = false) : ∀ (l : List UInt8) (b : Bool), scanB b l = true → c ∉ l
  | [], _, _ => by simp
  | x :: r, b, h => by
    have hx : (letterB x = true ∨ tailB x = true) ∧ scanB false r = true := by
      cases b with
      | true =>
        rw [scanB, Bool.and_eq_true] at h
        exact ⟨.inl h.1, h.2⟩
      | false =>
        rw [scanB, Bool.and_eq_true] at h
        exact ⟨.inr h.1, h.2⟩
    rw [List.mem_cons]
    rintro (rfl | hr)
    · rcases hx.1 with h | h
      · rw [h1] at h; cases h
      · rw [h2] at h; cases h
    · exact scan_free h1 h2 r false hx.2 hr
theorem name_clean {s : ByteArray} (h : nameE s = 0) : ((32 : UInt8) ∉ s.data.toList ∧ (10 : UInt8) ∉ s.data.toList) ∧ (s.toList == []) = false := by
  have hb := whenE_zero (by decide) h
  have hb : nameB s = true := by simpa using hb
  unfold nameB at hb
  rw [Bool.and_eq_true, Bool.and_eq_true] at hb
  refine ⟨⟨scan_free rfl rfl _ _ hb.1, scan_free rfl rfl _ _ hb.1⟩, ?_⟩
  rw [toList_data]
  have h2 := hb.2.1
  cases hl : s.data.toList with
  | nil => rw [hl] at h2; cases h2
  | cons a r => rfl
theorem lit_list (l : List UInt8) : (⟨l.toArray⟩ : ByteArray).toList = l := by rw [toList_data]
/-- A section's line. -/
theorem rp_sec {z : Yd} (hw : z.w = []) (hp : z.p = []) {x : Sec} (hn : nameE x.n = 0) : rpR z (secW x) = (0, { z with s := z.s ++ [x] }) := by
  have h1 := (name_clean hn).2
  obtain ⟨n, q⟩ := x
  dsimp only at h1
  have e0 : (⟨#[115, 101, 99, 116, 105, 111, 110]⟩ : ByteArray).toList = sectionL := lit_list sectionL
  have e1 : (⟨#[115, 111, 117, 114, 99, 101]⟩ : ByteArray).toList = sourceL := lit_list sourceL
  have e2 : (⟨#[112, 108, 97, 105, 110]⟩ : ByteArray).toList = plainL := lit_list plainL
  have h0 : ((⟨#[115, 101, 99, 116, 105, 111, 110]⟩ : ByteArray).toList == []) = false := by rw [e0]; rfl
  unfold rpR secW
  rw [frm_cons h0]
  cases q
  · have hl : lastB [⟨#[115, 101, 99, 116, 105, 111, 110]⟩, n, ⟨#[112, 108, 97, 105, 110]⟩] = ⟨#[112, 108, 97, 105, 110]⟩ := rfl
    have hw0 : wAt [⟨#[115, 101, 99, 116, 105, 111, 110]⟩, n, ⟨#[112, 108, 97, 105, 110]⟩] 0 = ⟨#[115, 101, 99, 116, 105, 111, 110]⟩ := rfl
    have hw2 : wAt [⟨#[115, 101, 99, 116, 105, 111, 110]⟩, n, ⟨#[112, 108, 97, 105, 110]⟩] 2 = ⟨#[112, 108, 97, 105, 110]⟩ := rfl
    have hw1 : wAt [⟨#[115, 101, 99, 116, 105, 111, 110]⟩, n, ⟨#[112, 108, 97, 105, 110]⟩] 1 = n := rfl
    simp only [Bool.false_eq_true, if_false]
    rw [hl, hw0, hw1, hw2, e0, e2, hw, hp]
    simp only [List.all_cons, List.all_nil, h1, e2]
    rfl
  · have hl : lastB [⟨#[115, 101, 99, 116, 105, 111, 110]⟩, n, ⟨#[115, 111, 117, 114, 99, 101]⟩] = ⟨#[115, 111, 117, 114, 99, 101]⟩ := rfl
    have hw0 : wAt [⟨#[115, 101, 99, 116, 105, 111, 110]⟩, n, ⟨#[115, 111, 117, 114, 99, 101]⟩] 0 = ⟨#[115, 101, 99, 116, 105, 111, 110]⟩ := rfl
    have hw2 : wAt [⟨#[115, 101, 99, 116, 105, 111, 110]⟩, n, ⟨#[115, 111, 117, 114, 99, 101]⟩] 2 = ⟨#[115, 111, 117, 114, 99, 101]⟩ := rfl
    have hw1 : wAt [⟨#[115, 101, 99, 116, 105, 111, 110]⟩, n, ⟨#[115, 111, 117, 114, 99, 101]⟩] 1 = n := rfl
    simp only [if_true]
    rw [hl, hw0, hw1, hw2, e0, e1, hw, hp]
    simp only [List.all_cons, List.all_nil, h1, e1]
    rfl
theorem idxS_uniq {l : List Sec} (h : l.Pairwise (fun p q => (p.n.toList == q.n.toList) = false)) (nm : ByteArray) : ∀ (i k : Nat) (hi : i < l.length), (l[i].n.toList == nm.toList) = true → idxP (fun x : Sec => x.n.toList == nm.toList) k l = ((k + i : Nat) : Int) := by
  induction l with
  | nil => intro i k hi; simp at hi
  | cons x r ih =>
    intro i k hi he
    rw [idxP_cons]
    cases i with
    | zero =>
      simp only [List.getElem_cons_zero] at he
      rw [if_pos he]
      simp
    | succ i =>
      simp only [List.getElem_cons_succ] at he
      obtain ⟨h1, h2⟩ := List.pairwise_cons.1 h
      have hi' : i < r.length := by simpa using hi
      have h3 := h1 r[i] (List.getElem_mem hi')
      have e2 := eq_of_beq he
      rw [if_neg, ih h2 i (k + 1) hi' he]
      · omega
      · rw [← e2, h3]; decide
/-- The sections' names: well formed, each once. -/
def SecN (l : List Sec) : Prop := (∀ x ∈ l, nameE x.n = 0) ∧ l.Pairwise (fun p q => (p.n.toList == q.n.toList) = false)
theorem secN_of {y : Yd} (h : yardE y = 0) : SecN y.s := by
  obtain ⟨⟨_, h2, _⟩, _⟩ := parts_split.1 (yardE_zero.1 h).1
  unfold secChk at h2
  obtain ⟨_, k2, k3⟩ := (chkAll_iff _).1 h2
  refine ⟨fun x hx => (k2 (x.n, 0) (List.mem_map.2 ⟨x, hx, rfl⟩)).1, ?_⟩
  rw [List.pairwise_map] at k3
  exact k3
theorem nm_at {y z : Yd} (hs : z.s = y.s) (hN : SecN y.s) {a : Int} (h0 : 0 ≤ a) (h1 : a < y.s.length) : secAtB z (nmS y a) = a ∧ nameE (nmS y a) = 0 := by
  obtain ⟨i, rfl⟩ := Int.eq_ofNat_of_zero_le h0
  have hi : i < y.s.length := by omega
  rw [nmS_get hi]
  refine ⟨?_, hN.1 _ (List.getElem_mem hi)⟩
  unfold secAtB
  rw [hs, idxS_uniq hN.2 _ i 0 hi (beq_self_eq_true _)]
  simp
/-- A permit's line. -/
theorem rp_pm {y z : Yd} (hs : z.s = y.s) (hN : SecN y.s) {x : Pm} (hn : nameE x.n = 0) (h0 : 0 ≤ x.s) (h1 : x.s < y.s.length) : rpR z (pmW y x) = (0, { z with p := z.p ++ [x] }) := by
  obtain ⟨a1, a2⟩ := nm_at hs hN h0 h1
  have b1 := (name_clean hn).2
  have b2 := (name_clean a2).2
  obtain ⟨n, s⟩ := x
  dsimp only at a1 a2 b1 b2 h0 h1
  unfold pmW
  dsimp only
  generalize nmS y s = m at *
  have e0 : (⟨#[112, 101, 114, 109, 105, 116]⟩ : ByteArray).toList = permitL := lit_list permitL
  have hz : ((⟨#[112, 101, 114, 109, 105, 116]⟩ : ByteArray).toList == []) = false := by rw [e0]; rfl
  unfold rpR
  rw [frm_cons hz]
  have hw0 : wAt [⟨#[112, 101, 114, 109, 105, 116]⟩, n, m] 0 = ⟨#[112, 101, 114, 109, 105, 116]⟩ := rfl
  have hw2 : wAt [⟨#[112, 101, 114, 109, 105, 116]⟩, n, m] 2 = m := rfl
  have hw1 : wAt [⟨#[112, 101, 114, 109, 105, 116]⟩, n, m] 1 = n := rfl
  rw [hw0, hw1, hw2, e0, a1]
  have hk : frmK permitL (lastB [⟨#[112, 101, 114, 109, 105, 116]⟩, n, m]).toList ([n, m].length + 1) = true := by
    unfold frmK
    simp [permitL, sectionL, earthL, breakerL, isolatorL]
  rw [hk]
  simp only [List.all_cons, List.all_nil, b1, b2]
  rw [decide_eq_false (show ¬ s < 0 by omega)]
  rfl
theorem wordC (c : Bool) : (if c then (⟨#[99, 108, 111, 115, 101, 100]⟩ : ByteArray) else ⟨#[111, 112, 101, 110]⟩).toList = if c then closedL else openL := by
  cases c
  · exact lit_list openL
  · exact lit_list closedL
/-- A switch's line. -/
theorem rp_sw {y z : Yd} (hs : z.s = y.s) (hp : z.p = []) (hN : SecN y.s) {x : Sw} (hn : nameE x.n = 0) (hx : swE y.s.length x = 0) : rpR z (swW y x) = (0, { z with w := z.w ++ [x] }) := by
  have b1 := (name_clean hn).2
  unfold swE at hx
  split at hx
  · rename_i hk
    have hk0 : (x.k.toList == []) = false := by
      cases h : (x.k.toList == []) with
      | false => rfl
      | true =>
        have e := eq_of_beq h
        unfold kindB at hk
        rw [e] at hk
        cases hk
    have hks : (x.k.toList == sectionL) = false := by
      cases h : (x.k.toList == sectionL) with
      | false => rfl
      | true =>
        have e := eq_of_beq h
        unfold kindB at hk
        rw [e] at hk
        cases hk
    have hkp : (x.k.toList == permitL) = false := by
      cases h : (x.k.toList == permitL) with
      | false => rfl
      | true =>
        have e := eq_of_beq h
        unfold kindB at hk
        rw [e] at hk
        cases hk
    split at hx
    · rename_i he
      obtain ⟨g1, g2⟩ := first2_zeroV hx
      have g1 := whenE_zero (by decide) g1
      have g2 := whenE_zero (by decide) g2
      have ha := hasN_iff.1 (show hasN y.s.length x.a = true by simpa using g1)
      have hb : x.b = -1 := by simpa using g2
      obtain ⟨a1, a2⟩ := nm_at hs hN ha.1 ha.2
      have b2 := (name_clean a2).2
      obtain ⟨n, k, a, b, c⟩ := x
      dsimp only at *
      subst hb
      unfold swW
      dsimp only
      rw [if_pos he]
      generalize nmS y a = m at *
      have hc := wordC c
      have hcn : ((if c then (⟨#[99, 108, 111, 115, 101, 100]⟩ : ByteArray) else ⟨#[111, 112, 101, 110]⟩).toList == []) = false := by rw [hc]; cases c <;> rfl
      generalize (if c then (⟨#[99, 108, 111, 115, 101, 100]⟩ : ByteArray) else ⟨#[111, 112, 101, 110]⟩) = v at *
      show rpR z [k, n, m, v] = _
      unfold rpR
      rw [frm_cons hk0]
      have hw0 : wAt [k, n, m, v] 0 = k := rfl
      have hw2 : wAt [k, n, m, v] 2 = m := rfl
      have hw1 : wAt [k, n, m, v] 1 = n := rfl
      have hl : lastB [k, n, m, v] = v := rfl
      rw [hw0, hw1, hw2, hl, hc, a1, hks, hkp, hp]
      have hf : frmK k.toList (if c then closedL else openL) ([n, m, v].length + 1) = true := by
        unfold frmK
        rw [he, hks, hkp]
        cases c <;> rfl
      rw [hf]
      simp only [List.all_cons, List.all_nil, b1, b2, hcn]
      rw [decide_eq_false (show ¬ a < 0 by omega)]
      cases c <;> rfl
    · rename_i hne
      obtain ⟨g1, g2⟩ := first2_zeroV hx
      have g1 := whenE_zero (by decide) g1
      have g3 : hasN y.s.length x.a = true ∧ hasN y.s.length x.b = true := by
        cases h1 : hasN y.s.length x.a <;> cases h2 : hasN y.s.length x.b <;> rw [h1, h2] at g1 <;> simp at g1 ⊢
      have ha := hasN_iff.1 g3.1
      have hb := hasN_iff.1 g3.2
      obtain ⟨a1, a2⟩ := nm_at hs hN ha.1 ha.2
      obtain ⟨a3, a4⟩ := nm_at hs hN hb.1 hb.2
      have b2 := (name_clean a2).2
      have b3 := (name_clean a4).2
      have hne' : (x.k.toList == earthL) = false := by simpa using hne
      have hbi : (x.k.toList == breakerL || x.k.toList == isolatorL) = true := by
        unfold kindB at hk
        rw [hne', Bool.or_false] at hk
        exact hk
      obtain ⟨n, k, a, b, c⟩ := x
      dsimp only at *
      unfold swW
      dsimp only
      rw [if_neg (by rw [hne']; decide)]
      generalize nmS y a = m at *
      generalize nmS y b = o at *
      have hc := wordC c
      have hcn : ((if c then (⟨#[99, 108, 111, 115, 101, 100]⟩ : ByteArray) else ⟨#[111, 112, 101, 110]⟩).toList == []) = false := by rw [hc]; cases c <;> rfl
      generalize (if c then (⟨#[99, 108, 111, 115, 101, 100]⟩ : ByteArray) else ⟨#[111, 112, 101, 110]⟩) = v at *
      show rpR z [k, n, m, o, v] = _
      unfold rpR
      rw [frm_cons hk0]
      have hw0 : wAt [k, n, m, o, v] 0 = k := rfl
      have hw3 : wAt [k, n, m, o, v] 3 = o := rfl
      have hw2 : wAt [k, n, m, o, v] 2 = m := rfl
      have hw1 : wAt [k, n, m, o, v] 1 = n := rfl
      have hl : lastB [k, n, m, o, v] = v := rfl
      rw [hw0, hw1, hw2, hw3, hl, hc, a1, a3, hks, hkp, hp, show [k, n, m, o, v].length = 5 from rfl, if_pos rfl]
      have hf : frmK k.toList (if c then closedL else openL) ([n, m, o, v].length + 1) = true := by
        unfold frmK
        rw [hne', hks, hkp, hbi]
        cases c <;> rfl
      rw [hf]
      simp only [List.all_cons, List.all_nil, b1, b2, b3, hcn]
      rw [decide_eq_false (show ¬ a < 0 by omega), decide_eq_false (show ¬ b < 0 by omega)]
      cases c <;> rfl
  · cases hx
end Go.Proofs.YtphlojgmfkgeiaaGreatDoor
