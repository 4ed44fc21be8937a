/- A yard is parsed as it was printed; in plain words. -/
import Derived.Test.YtphlojgmfkgeiaaGreatDoorQO
namespace Go.Proofs.YtphlojgmfkgeiaaGreatDoor
open Go.RowKit Go.Sort Go.Shelf
theorem goP_lines {α : Type} (g : α → List ByteArray) (P : Yd → Prop) (add : Yd → α → Yd) : ∀ (l : List α) (z : Yd) (i : Nat) (m : ByteArray) (r : List ByteArray), (∀ z, P z → ∀ x ∈ l, rpR z (g x) = (0, add z x) ∧ P (add z x)) → P z → (∀ x ∈ l, Clean (g x)) →
    goP rpR z i (l.map (fun x => toB (bodyL (g x))) ++ m :: r) = goP rpR (l.foldl add z) (i + l.length) (m :: r)
  | [], _, _, _, _, _, _, _ => rfl
  | x :: l, z, i, m, r, hs, hz, hc => by
    obtain ⟨h1, h2⟩ := hs z hz x (List.mem_cons_self ..)
    have hb := body_words (hc x (List.mem_cons_self ..))
    have ih := goP_lines g P add l (add z x) (i + 1) m r (fun z hz u hu => hs z hz u (List.mem_cons_of_mem _ hu)) h2 (fun u hu => hc u (List.mem_cons_of_mem _ hu))
    have h0 : (rpR z (spL (toB (bodyL (g x))) 32)).1 = 0 := by rw [hb, h1]
    have hn : (rpR z (spL (toB (bodyL (g x))) 32)).2 = add z x := by rw [hb, h1]
    rw [List.map_cons, List.foldl_cons, List.length_cons, show i + (l.length + 1) = i + 1 + l.length by omega, ← ih]
    cases l with
    | nil =>
      show goP rpR z i (toB (bodyL (g x)) :: m :: r) = _
      rw [goP_ok h0, hn]
      rfl
    | cons a l =>
      show goP rpR z i (toB (bodyL (g x)) :: toB (bodyL (g a)) :: (l.map (fun x => toB (bodyL (g x))) ++ m :: r)) = _
      rw [goP_ok h0, hn]
      rfl
theorem lit_clean {l : List UInt8} (h : l.all (fun c => !(c == 32) && !(c == 10)) = true) : (32 : UInt8) ∉ (⟨l.toArray⟩ : ByteArray).data.toList ∧ (10 : UInt8) ∉ (⟨l.toArray⟩ : ByteArray).data.toList := by
  rw [List.all_eq_true] at h
  refine ⟨fun hm => ?_, fun hm => ?_⟩
  · have := h 32 (by simpa using hm)
    exact absurd this (by decide)
  · have := h 10 (by simpa using hm)
    exact absurd this (by decide)
theorem sec_clean {x : Sec} (hn : nameE x.n = 0) : Clean (secW x) := by
  refine ⟨by simp [secW], fun u hu => ?_⟩
  unfold secW at hu
  simp only [List.mem_cons, List.not_mem_nil, or_false] at hu
  rcases hu with rfl | rfl | rfl
  · exact lit_clean (l := [115, 101, 99, 116, 105, 111, 110]) (by decide)
  · exact (name_clean hn).1
  · cases x.src
    · exact lit_clean (l := [112, 108, 97, 105, 110]) (by decide)
    · exact lit_clean (l := [115, 111, 117, 114, 99, 101]) (by decide)
theorem kind_clean {k : ByteArray} (h : kindB k = true) : (32 : UInt8) ∉ k.data.toList ∧ (10 : UInt8) ∉ k.data.toList := by
  unfold kindB at h
  simp only [Bool.or_eq_true] at h
  rw [← toList_data]
  rcases h with (h | h) | h <;> rw [eq_of_beq h] <;> exact ⟨by decide, by decide⟩
theorem pm_clean {y : Yd} (hN : SecN y.s) {x : Pm} (hn : nameE x.n = 0) (h0 : 0 ≤ x.s) (h1 : x.s < y.s.length) : Clean (pmW y x) := by
  refine ⟨by simp [pmW], fun u hu => ?_⟩
  unfold pmW at hu
  simp only [List.mem_cons, List.not_mem_nil, or_false] at hu
  rcases hu with rfl | rfl | rfl
  · exact lit_clean (l := [112, 101, 114, 109, 105, 116]) (by decide)
  · exact (name_clean hn).1
  · exact (name_clean (nm_at (z := y) rfl hN h0 h1).2).1
theorem sw_clean {y : Yd} (hN : SecN y.s) {x : Sw} (hn : nameE x.n = 0) (hx : swE y.s.length x = 0) : Clean (swW y x) := by
  unfold swE at hx
  split at hx
  · rename_i hk
    have hcc : (32 : UInt8) ∉ (if x.c then (⟨#[99, 108, 111, 115, 101, 100]⟩ : ByteArray) else ⟨#[111, 112, 101, 110]⟩).data.toList ∧ (10 : UInt8) ∉ (if x.c then (⟨#[99, 108, 111, 115, 101, 100]⟩ : ByteArray) else ⟨#[111, 112, 101, 110]⟩).data.toList := by
      cases x.c
      · exact lit_clean (l := [111, 112, 101, 110]) (by decide)
      · exact lit_clean (l := [99, 108, 111, 115, 101, 100]) (by decide)
    have ha : 0 ≤ x.a ∧ x.a < y.s.length := by
      split at hx
      · have g1 := whenE_zero (by decide) (first2_zeroV hx).1
        exact hasN_iff.1 (by simpa using g1)
      · have g1 := whenE_zero (by decide) (first2_zeroV hx).1
        rw [Bool.or_eq_false_iff] at g1
        exact hasN_iff.1 (by simpa using g1.1)
    refine ⟨by simp [swW], fun u hu => ?_⟩
    unfold swW at hu
    split at hu
    · simp only [List.append_nil, List.cons_append, List.nil_append, List.mem_cons, List.not_mem_nil, or_false] at hu
      rcases hu with rfl | rfl | rfl | rfl
      · exact kind_clean hk
      · exact (name_clean hn).1
      · exact (name_clean (nm_at (z := y) rfl hN ha.1 ha.2).2).1
      · exact hcc
    · rename_i he
      have hb : 0 ≤ x.b ∧ x.b < y.s.length := by
        rw [if_neg he] at hx
        have g1 := whenE_zero (by decide) (first2_zeroV hx).1
        rw [Bool.or_eq_false_iff] at g1
        exact hasN_iff.1 (by simpa using g1.2)
      simp only [List.cons_append, List.nil_append, List.mem_cons, List.not_mem_nil, or_false] at hu
      rcases hu with rfl | rfl | rfl | rfl | rfl
      · exact kind_clean hk
      · exact (name_clean hn).1
      · exact (name_clean (nm_at (z := y) rfl hN ha.1 ha.2).2).1
      · exact (name_clean (nm_at (z := y) rfl hN hb.1 hb.2).2).1
      · exact hcc
  · cases hx
theorem fold_s : ∀ (l : List Sec) (z : Yd), l.foldl (fun z x => { z with s := z.s ++ [x] }) z = { z with s := z.s ++ l }
  | [], z => by simp
  | x :: l, z => by rw [List.foldl_cons, fold_s l]; simp
theorem fold_w : ∀ (l : List Sw) (z : Yd), l.foldl (fun z x => { z with w := z.w ++ [x] }) z = { z with w := z.w ++ l }
  | [], z => by simp
  | x :: l, z => by rw [List.foldl_cons, fold_w l]; simp
theorem fold_p : ∀ (l : List Pm) (z : Yd), l.foldl (fun z x => { z with p := z.p ++ [x] }) z = { z with p := z.p ++ l }
  | [], z => by simp
  | x :: l, z => by rw [List.foldl_cons, fold_p l]; simp
theorem app_head {α : Type} : ∀ (l : List α) (a : α), ∃ m r, l ++ [a] = m :: r
  | [], a => ⟨a, [], rfl⟩
  | x :: l, a => ⟨x, l ++ [a], rfl⟩
theorem rows_of {y : Yd} (h : yardE y = 0) : (∀ x ∈ y.w, nameE x.n = 0 ∧ swE y.s.length x = 0) ∧ (∀ x ∈ y.p, nameE x.n = 0 ∧ 0 ≤ x.s ∧ x.s < y.s.length) := by
  obtain ⟨⟨_, _, h3⟩, h4⟩ := parts_split.1 (yardE_zero.1 h).1
  unfold swChk at h3
  refine ⟨fun x hx => ?_, fun x hx => ?_⟩
  · exact ((chkAll_iff _).1 h3).2.1 (x.n, swE y.s.length x) (List.mem_map.2 ⟨x, hx, rfl⟩)
  · have := (pmChk_iff.1 h4).2.1 x hx
    exact ⟨this.1, hasN_iff.1 this.2⟩
/-- The lines of a yard's text. -/
theorem print_lines {y : Yd} (h : yardE y = 0) : spL (toB (printL y)) 10 = y.s.map (fun x => toB (bodyL (secW x))) ++ (y.w.map (fun x => toB (bodyL (swW y x))) ++ (y.p.map (fun x => toB (bodyL (pmW y x))) ++ [toB []])) := by
  have hN := secN_of h
  obtain ⟨hW, hP⟩ := rows_of h
  have e : printL y = (y.s.map secW ++ (y.w.map (swW y) ++ y.p.map (pmW y))).flatMap lineL := by
    unfold printL
    rw [List.flatMap_append, List.flatMap_append, List.flatMap_map, List.flatMap_map, List.flatMap_map, List.append_assoc]
  have e2 : spL (toB (printL y)) 10 = (spl 10 (toB (printL y)).data.toList).map toB := spL_spl (toB (printL y)) 10
  rw [e2, show (toB (printL y)).data.toList = printL y by simp [toB], e, spl_lines (fun ws hws => ?_)]
  · simp only [List.map_append, List.map_map, List.map_cons, List.map_nil, List.append_assoc]
    rfl
  · rcases List.mem_append.1 hws with hq | hq
    · obtain ⟨x, hx, rfl⟩ := List.mem_map.1 hq
      exact sec_clean (hN.1 x hx)
    · rcases List.mem_append.1 hq with hq | hq
      · obtain ⟨x, hx, rfl⟩ := List.mem_map.1 hq
        exact sw_clean hN (hW x hx).1 (hW x hx).2
      · obtain ⟨x, hx, rfl⟩ := List.mem_map.1 hq
        exact pm_clean hN (hP x hx).1 (hP x hx).2.1 (hP x hx).2.2
/-- A yard is parsed as it was printed. -/
theorem parse_print {y : Yd} (h : yardE y = 0) (hl : (printL y).length ≤ 4096) : parseR (toB (printL y)) = (y, 0, 0) ∧ (spL (toB (printL y)) 10).length = y.s.length + y.w.length + y.p.length + 1 := by
  have hN := secN_of h
  obtain ⟨hW, hP⟩ := rows_of h
  have hL := print_lines h
  refine ⟨?_, ?_⟩
  · unfold parseR
    rw [if_neg (by show ¬ 4096 < (printL y).toArray.size; simp; omega), hL]
    obtain ⟨m1, r1, t1⟩ := app_head (y.w.map (fun x => toB (bodyL (swW y x))) ++ y.p.map (fun x => toB (bodyL (pmW y x)))) (toB [])
    rw [List.append_assoc] at t1
    obtain ⟨m2, r2, t2⟩ := app_head (y.p.map (fun x => toB (bodyL (pmW y x)))) (toB [])
    rw [t1, goP_lines secW (fun z => z.w = [] ∧ z.p = []) (fun z x => { z with s := z.s ++ [x] }) y.s nilY 0 m1 r1 (fun z hz x hx => ⟨rp_sec hz.1 hz.2 (hN.1 x hx), hz⟩) ⟨rfl, rfl⟩ (fun x hx => sec_clean (hN.1 x hx)), ← t1, fold_s, t2]
    rw [goP_lines (swW y) (fun z => z.s = y.s ∧ z.p = []) (fun z x => { z with w := z.w ++ [x] }) y.w { nilY with s := nilY.s ++ y.s } (0 + y.s.length) m2 r2 (fun z hz x hx => ⟨rp_sw hz.1 hz.2 hN (hW x hx).1 (hW x hx).2, hz⟩) ⟨rfl, rfl⟩ (fun x hx => sw_clean hN (hW x hx).1 (hW x hx).2), ← t2, fold_w]
    rw [goP_lines (pmW y) (fun z => z.s = y.s) (fun z x => { z with p := z.p ++ [x] }) y.p { nilY with s := nilY.s ++ y.s, w := nilY.w ++ y.w } (0 + y.s.length + y.w.length) (toB []) [] (fun z hz x hx => ⟨rp_pm hz hN (hP x hx).1 (hP x hx).2.1 (hP x hx).2.2, hz⟩) rfl (fun x hx => pm_clean hN (hP x hx).1 (hP x hx).2.1 (hP x hx).2.2), fold_p]
    have hnil : ((toB []).toList == []) = true := by rw [toList_data]; rfl
    show (if (toB []).toList == [] then _ else _) = _
    rw [if_pos hnil]
    show (if yardE y = 0 then _ else _) = _
    rw [if_pos h]
    rfl
  · rw [hL]
    simp
    omega
end Go.Proofs.YtphlojgmfkgeiaaGreatDoor
