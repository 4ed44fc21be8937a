/- An arm's text: what is printed is parsed, what is parsed is printed; in plain words. -/
import Derived.Test.YtjanojmgnpfjeaaGreatDoorSU
namespace Go.Proofs.YtjanojmgnpfjeaaGreatDoor
open Go Go.RowKit Go.Sort Go.Shelf
set_option linter.unusedSimpArgs false
set_option linter.unusedVariables false
theorem app_head {α : Type} : ∀ (l : List α) (a : α), ∃ m r, l ++ [a] = m :: r
  | [], a => ⟨a, [], rfl⟩
  | x :: l, a => ⟨x, l ++ [a], rfl⟩
theorem scan_free {c : UInt8} (h1 : letterB c = false) (h2 : tailB c = false) : ∀ (l : List UInt8) (b : Bool), scanB b l = true → c ∉ l
  | [], _, _ => by simp
  | x :: r, b, h => by
    have hx : (letterB x = true ∨ tailB x = true) ∧ scanB false r = true := by
      cases b with
      | true =>
        rw [scanB, Bool.and_eq_true] at h
        exact ⟨.inl h.1, h.2⟩
      | false =>
        rw [scanB, Bool.and_eq_true] at h
        exact ⟨.inr h.1, h.2⟩
    rw [List.mem_cons]
    rintro (rfl | hr)
    · rcases hx.1 with h | h
      · rw [h1] at h; cases h
      · rw [h2] at h; cases h
    · exact scan_free h1 h2 r false hx.2 hr
theorem name_clean {s : ByteArray} (hb : nameB s = true) : ((32 : UInt8) ∉ s.data.toList ∧ (10 : UInt8) ∉ s.data.toList) ∧ (s.toList == []) = false ∧ s.size ≤ 24 := by
  unfold nameB at hb
  rw [Bool.and_eq_true, Bool.and_eq_true] at hb
  refine ⟨⟨scan_free rfl rfl _ _ hb.1, scan_free rfl rfl _ _ hb.1⟩, ?_, by simpa using hb.2.2⟩
  rw [toList_data]
  have h2 := hb.2.1
  cases hl : s.data.toList with
  | nil => rw [hl] at h2; cases h2
  | cons a r => rfl
theorem lit_list (l : List UInt8) : (⟨l.toArray⟩ : ByteArray).toList = l := by rw [toList_data]
theorem lit_clean {l : List UInt8} (h : l.all (fun c => !(c == 32) && !(c == 10)) = true) : (32 : UInt8) ∉ (⟨l.toArray⟩ : ByteArray).data.toList ∧ (10 : UInt8) ∉ (⟨l.toArray⟩ : ByteArray).data.toList := by
  rw [List.all_eq_true] at h
  refine ⟨fun hm => ?_, fun hm => ?_⟩
  · have := h 32 (by simpa using hm)
    exact absurd this (by decide)
  · have := h 10 (by simpa using hm)
    exact absurd this (by decide)
theorem ito_clean {n : Int} (h0 : 0 ≤ n) (h1 : n ≤ 999999999) : (32 : UInt8) ∉ (itoB n).data.toList ∧ (10 : UInt8) ∉ (itoB n).data.toList := by
  have h := (int_all (ito_ok h0 h1).1).2.1
  exact ⟨dig_free (by decide) h, dig_free (by decide) h⟩
theorem st_lits (x : Md) : stBr x = ⟨bypW.toArray⟩ ∨ stBr x = ⟨onW.toArray⟩ ∨ stBr x = ⟨offW.toArray⟩ := by
  unfold stBr
  split
  · exact .inl rfl
  · split
    · exact .inr (.inl rfl)
    · exact .inr (.inr rfl)
theorem head_clean {a : Ar} (h : Fit a) : Clean (headWs a) := by
  have h1 := h.lo
  have h2 := h.hi
  have h3 := h.cur
  have h4 := h.lim
  refine ⟨by simp [headWs], fun u hu => ?_⟩
  unfold headWs at hu
  simp only [List.mem_cons, List.not_mem_nil, or_false] at hu
  rcases hu with rfl | rfl | rfl | rfl | rfl
  · exact lit_clean (l := armW) (by decide)
  · exact ito_clean h1.1 (by omega)
  · exact ito_clean h2.1 (by omega)
  · exact ito_clean h3.1 (by omega)
  · exact ito_clean h4.1 (by omega)
theorem mod_clean {x : Md} (hn : nameB x.n = true) (h0 : 0 ≤ x.q) (h1 : x.q ≤ 16384) : Clean (modWs x) := by
  refine ⟨by simp [modWs], fun u hu => ?_⟩
  unfold modWs at hu
  simp only [List.mem_cons, List.not_mem_nil, or_false] at hu
  rcases hu with rfl | rfl | rfl | rfl
  · exact lit_clean (l := modW) (by decide)
  · exact (name_clean hn).1
  · exact ito_clean h0 (by omega)
  · rcases st_lits x with e | e | e <;> rw [e] <;> exact lit_clean (by decide)
theorem head_row {a z : Ar} (h : Fit a) : rowA z 0 (headWs a) = (true, ⟨z.m, a.lo, a.hi, a.cur, a.lim⟩) := by
  have h1 := h.lo
  have h2 := h.hi
  have h3 := h.cur
  have h4 := h.lim
  obtain ⟨p1, q1⟩ := ito_ok (n := a.lo) h1.1 (by omega)
  obtain ⟨p2, q2⟩ := ito_ok (n := a.hi) h2.1 (by omega)
  obtain ⟨p3, q3⟩ := ito_ok (n := a.cur) h3.1 (by omega)
  obtain ⟨p4, q4⟩ := ito_ok (n := a.lim) h4.1 (by omega)
  show (headR (headWs a), headV z (headWs a)) = _
  have e1 : headR (headWs a) = true := by
    unfold headR
    have e : (wAt (headWs a) 0).toList = armW := lit_list armW
    rw [e]
    show (true && true && [itoB a.lo, itoB a.hi, itoB a.cur, itoB a.lim].all fun x => intOk x.data.toList) = true
    simp only [List.all_cons, List.all_nil, p1, p2, p3, p4]
    rfl
  have e2 : headV z (headWs a) = ⟨z.m, a.lo, a.hi, a.cur, a.lim⟩ := by
    show (⟨z.m, decV (itoB a.lo).data.toList, decV (itoB a.hi).data.toList, decV (itoB a.cur).data.toList, decV (itoB a.lim).data.toList⟩ : Ar) = _
    rw [q1, q2, q3, q4]
  rw [e1, e2]
theorem mod_row {x : Md} (hn : nameB x.n = true) (h0 : 0 ≤ x.q) (h1 : x.q ≤ 16384) (hc : x.on = true → x.by_ = false) (z : Ar) {i : Nat} (hi : i ≠ 0) : rowA z i (modWs x) = (true, { z with m := z.m ++ [x] }) := by
  obtain ⟨p1, q1⟩ := ito_ok (n := x.q) h0 (by omega)
  have e0 : rowA z i (modWs x) = (modR (modWs x), { z with m := z.m ++ [modV (modWs x)] }) := if_neg hi
  have hs : (stBr x).toList = if x.by_ then bypW else if x.on then onW else offW := by
    unfold stBr
    split
    · exact lit_list bypW
    · split
      · exact lit_list onW
      · exact lit_list offW
  have e1 : modR (modWs x) = true := by
    unfold modR
    have ea : (wAt (modWs x) 0).toList = modW := lit_list modW
    have eb : wAt (modWs x) 1 = x.n := rfl
    have ec : nAt (modWs x) 2 = (itoB x.q).data.toList := rfl
    have ed : wAt (modWs x) 3 = stBr x := rfl
    have el : (modWs x).length = 4 := rfl
    rw [el, ea, eb, ec, ed, p1, (name_clean hn).2.1, hs]
    generalize x.by_ = p at *
    generalize x.on = q at *
    clear p1 q1 e0 hs ea eb ec ed el hc
    revert p q
    decide
  have e2 : modV (modWs x) = x := by
    obtain ⟨n, q, on, by_⟩ := x
    show (⟨n, decV (itoB q).data.toList, (stBr ⟨n, q, on, by_⟩).toList == onW, (stBr ⟨n, q, on, by_⟩).toList == bypW⟩ : Md) = _
    have q1 : decV (itoB q).data.toList = q := q1
    rw [q1, hs]
    cases by_ with
    | true =>
      cases on with
      | true => exact absurd (show true = false from hc rfl) (by decide)
      | false => rfl
    | false => cases on <;> rfl
  rw [e0, e1, e2]
theorem goA_step {y : Ar} {i : Nat} {ws : List ByteArray} (hc : Clean ws) (h : (rowA y i ws).1 = true) (m : ByteArray) (r : List ByteArray) : goA y i (toB (bodyL ws) :: m :: r) = goA (rowA y i ws).2 (i + 1) (m :: r) := by
  have e := body_words hc
  show (if (rowA y i (spL (toB (bodyL ws)) 32)).1 = true then goA (rowA y i (spL (toB (bodyL ws)) 32)).2 (i + 1) (m :: r) else _) = _
  rw [e, if_pos h]
theorem goA_mods : ∀ (l : List Md) (z : Ar) (i : Nat) (t : ByteArray), i ≠ 0 → (∀ x ∈ l, nameB x.n = true ∧ (0 ≤ x.q ∧ x.q ≤ 16384) ∧ (x.on = true → x.by_ = false)) → goA z i (l.map (fun x => toB (bodyL (modWs x))) ++ [t]) = goA { z with m := z.m ++ l } (i + l.length) [t]
  | [], z, i, t, _, _ => by simp
  | x :: l, z, i, t, hi, h => by
    obtain ⟨h1, h2, h3⟩ := h x (List.mem_cons_self ..)
    have ih := goA_mods l { z with m := z.m ++ [x] } (i + 1) t (by omega) (fun u hu => h u (List.mem_cons_of_mem _ hu))
    have hr := mod_row h1 h2.1 h2.2 h3 z hi
    obtain ⟨m, r, e⟩ := app_head (l.map (fun x => toB (bodyL (modWs x)))) t
    rw [List.map_cons, List.cons_append, e, goA_step (mod_clean h1 h2.1 h2.2) (by rw [hr]), hr, ← e, ih]
    simp only [List.append_assoc, List.cons_append, List.nil_append, List.length_cons]
    rw [show i + 1 + l.length = i + (l.length + 1) by omega]
theorem mods_ok {a : Ar} (h : Fit a) : ∀ x ∈ a.m, nameB x.n = true ∧ (0 ≤ x.q ∧ x.q ≤ 16384) ∧ (x.on = true → x.by_ = false) := fun x hx => ⟨h.nm x hx, h.q x hx, h.cf x hx⟩
theorem lines_clean {a : Ar} (h : Fit a) : ∀ ws ∈ linesA a, Clean ws := fun ws hws => by
  unfold linesA at hws
  rcases List.mem_cons.1 hws with rfl | hw
  · exact head_clean h
  · obtain ⟨x, hx, rfl⟩ := List.mem_map.1 hw
    obtain ⟨h1, h2, _⟩ := mods_ok h x hx
    exact mod_clean h1 h2.1 h2.2
theorem print_parts {a : Ar} (h : Fit a) : spL (toB (printL a)) 10 = toB (bodyL (headWs a)) :: (a.m.map (fun x => toB (bodyL (modWs x))) ++ [toB []]) := by
  have e : spL (toB (printL a)) 10 = (spl 10 (toB (printL a)).data.toList).map toB := spL_spl (toB (printL a)) 10
  rw [e, toB_list]
  unfold printL
  rw [spl_lines (lines_clean h)]
  unfold linesA
  simp only [List.map_append, List.map_map, List.map_cons, List.map_nil, List.cons_append]
  rfl
theorem go_head {a : Ar} (h : Fit a) (t : ByteArray) : goA nilA 0 (toB (bodyL (headWs a)) :: (a.m.map (fun x => toB (bodyL (modWs x))) ++ [t])) = goA a (a.m.length + 1) [t] := by
  obtain ⟨m, r, e⟩ := app_head (a.m.map (fun x => toB (bodyL (modWs x)))) t
  have hr := head_row (z := nilA) h
  rw [e, goA_step (head_clean h) (by rw [hr]), hr, ← e, goA_mods _ _ _ _ (by omega) (mods_ok h)]
  rw [show 0 + 1 + a.m.length = a.m.length + 1 by omega]
  rfl
/-- An arm is parsed as it was printed. -/
theorem parse_print {a : Ar} (h : Fit a) (he : armE a = 0) (hl : (printL a).length ≤ 4096) : parseA (toB (printL a)) = (a, 0, 0) ∧ (spL (toB (printL a)) 10).length = a.m.length + 2 := by
  have hp := print_parts h
  have hlen : (spL (toB (printL a)) 10).length = a.m.length + 2 := by rw [hp]; simp
  refine ⟨?_, hlen⟩
  unfold parseA
  rw [if_neg (by show ¬ 4096 < (printL a).toArray.size; simp; omega), if_neg (by rw [hlen]; omega), hp, go_head h]
  have hnil : ((toB []).toList == []) = true := by rw [toList_data]; rfl
  show (if (toB []).toList == [] then _ else _) = _
  rw [if_pos hnil, if_pos he]
theorem line_ne (ws : List ByteArray) : lineL ws ≠ [] := by unfold lineL; simp
theorem spl_cut : ∀ (wss : List (List ByteArray)) (w : List ByteArray), (∀ ws ∈ wss ++ [w], Clean ws) → spl 10 (wss.flatMap lineL ++ bodyL w) = wss.map bodyL ++ [bodyL w]
  | [], w, h => by
    have hc := h w (by simp)
    have hfree : (10 : UInt8) ∉ bodyL w := join_free (by decide) (fun x hx => by
      obtain ⟨z, hz, rfl⟩ := List.mem_map.1 hx
      exact (hc.2 z hz).2)
    exact spl_none hfree
  | ws :: r, w, h => by
    have hc := h ws (by simp)
    have hfree : (10 : UInt8) ∉ bodyL ws := join_free (by decide) (fun x hx => by
      obtain ⟨z, hz, rfl⟩ := List.mem_map.1 hx
      exact (hc.2 z hz).2)
    have ih := spl_cut r w (fun u hu => h u (by simp at hu ⊢; exact .inr hu))
    rw [List.flatMap_cons, show lineL ws = bodyL ws ++ [10] from rfl, List.append_assoc, List.append_assoc]
    show spl 10 (bodyL ws ++ 10 :: (r.flatMap lineL ++ bodyL w)) = _
    rw [spl_app _ hfree, ih]
    rfl
theorem body_ne {ws : List ByteArray} {x : ByteArray} (h : (x.toList == []) = false) : bodyL (x :: ws) ≠ [] := by
  have hx : x.data.toList ≠ [] := fun e => by rw [toList_data, e] at h; cases h
  unfold bodyL
  rw [List.map_cons]
  cases ws with
  | nil => rw [List.map_nil, Lib.join_one]; exact hx
  | cons u r =>
    rw [List.map_cons, join_more]
    intro e
    cases hd : x.data.toList with
    | nil => exact hx hd
    | cons a b => rw [hd] at e; cases e
/-- Without its last byte a text is not parsed. -/
theorem parse_cut {a : Ar} (h : Fit a) (hl : (printL a).length ≤ 4096) : parseA (toB (printL a).dropLast) = (nilA, a.m.length, 25) := by
  have hne : a.m ≠ [] := fun e => by have := h.n0; rw [e] at this; exact absurd this (by decide)
  have em := List.dropLast_concat_getLast hne
  have hlm : a.m.dropLast.length + 1 = a.m.length := by have := congrArg List.length em; simpa using this
  generalize hpre : a.m.dropLast = pre at em hlm
  generalize hx : a.m.getLast hne = x at em
  have hmem : x ∈ a.m := by rw [← em]; simp
  have hpm : ∀ u ∈ pre, u ∈ a.m := fun u hu => by rw [← em]; simp [hu]
  have hmo := mods_ok h
  have e1 : printL a = (headWs a :: pre.map modWs).flatMap lineL ++ lineL (modWs x) := by
    unfold printL linesA
    rw [← em]
    simp
  have e2 : (printL a).dropLast = (headWs a :: pre.map modWs).flatMap lineL ++ bodyL (modWs x) := by
    rw [e1, List.dropLast_append_of_ne_nil (line_ne _)]
    unfold lineL bodyL
    rw [List.dropLast_concat]
  have e3 : spl 10 (printL a).dropLast = (headWs a :: pre.map modWs).map bodyL ++ [bodyL (modWs x)] := by
    rw [e2]
    refine spl_cut _ _ (fun ws hws => ?_)
    rcases List.mem_append.1 hws with hq | hq
    · refine lines_clean h ws ?_
      unfold linesA
      rcases List.mem_cons.1 hq with rfl | hq
      · exact List.mem_cons_self ..
      · obtain ⟨u, hu, rfl⟩ := List.mem_map.1 hq
        exact List.mem_cons_of_mem _ (List.mem_map.2 ⟨u, hpm u hu, rfl⟩)
    · rw [List.mem_singleton.1 hq]
      obtain ⟨h1, h2, _⟩ := hmo x hmem
      exact mod_clean h1 h2.1 h2.2
  have e4 : spL (toB (printL a).dropLast) 10 = toB (bodyL (headWs a)) :: (pre.map (fun x => toB (bodyL (modWs x))) ++ [toB (bodyL (modWs x))]) := by
    have e : spL (toB (printL a).dropLast) 10 = (spl 10 (toB (printL a).dropLast).data.toList).map toB := spL_spl (toB (printL a).dropLast) 10
    rw [e, toB_list, e3]
    simp only [List.map_append, List.map_map, List.map_cons, List.map_nil, List.cons_append]
    rfl
  have hb : ((toB (bodyL (modWs x))).toList == []) = false := by
    rw [toB_empty]
    have h5 : bodyL (modWs x) ≠ [] := body_ne (by rw [show modB.toList = modW from lit_list modW]; decide)
    cases hq : bodyL (modWs x) with
    | nil => exact absurd hq h5
    | cons a b => rfl
  obtain ⟨m, r, e⟩ := app_head (pre.map (fun x => toB (bodyL (modWs x)))) (toB (bodyL (modWs x)))
  have hr := head_row (z := nilA) h
  unfold parseA
  rw [if_neg (by show ¬ 4096 < (printL a).dropLast.toArray.size; simp; omega), if_neg (by rw [e4]; simp), e4, e, goA_step (head_clean h) (by rw [hr]), hr, ← e, goA_mods _ _ _ _ (by omega) (fun u hu => hmo u (hpm u hu))]
  show (if (toB (bodyL (modWs x))).toList == [] then _ else _) = _
  rw [hb, if_neg (by decide), show 0 + 1 + pre.length = a.m.length by omega]
theorem of_lit {x : ByteArray} {l : List UInt8} (h : x.toList = l) : (⟨l.toArray⟩ : ByteArray) = x := by
  rw [toList_data] at h
  rw [← toB_data x, h]
  rfl
theorem len4 {ws : List ByteArray} (h : ws.length = 4) : ∃ a b c d, ws = [a, b, c, d] := by
  match ws, h with
  | [a, b, c, d], _ => exact ⟨a, b, c, d, rfl⟩
theorem len5 {ws : List ByteArray} (h : ws.length = 5) : ∃ a b c d e, ws = [a, b, c, d, e] := by
  match ws, h with
  | [a, b, c, d, e], _ => exact ⟨a, b, c, d, e, rfl⟩
/-- A first line says what is printed for it. -/
theorem head_back {ws : List ByteArray} (h : headR ws = true) (z : Ar) : headWs (headV z ws) = ws := by
  unfold headR at h
  simp only [Bool.and_eq_true, beq_iff_eq] at h
  obtain ⟨⟨h1, h2⟩, h3⟩ := h
  obtain ⟨x0, x1, x2, x3, x4, rfl⟩ := len5 h1
  have h2 : x0.toList = armW := h2
  have h3 : [x1, x2, x3, x4].all (fun x => intOk x.data.toList) = true := h3
  simp only [List.all_cons, List.all_nil, Bool.and_eq_true, Bool.and_true] at h3
  obtain ⟨k1, k2, k3, k4⟩ := h3
  show [armB, itoB (decV x1.data.toList), itoB (decV x2.data.toList), itoB (decV x3.data.toList), itoB (decV x4.data.toList)] = _
  rw [ito_back k1, ito_back k2, ito_back k3, ito_back k4, show armB = x0 from of_lit h2]
theorem mod_back {ws : List ByteArray} (h : modR ws = true) : modWs (modV ws) = ws := by
  unfold modR at h
  simp only [Bool.and_eq_true, beq_iff_eq] at h
  obtain ⟨⟨⟨⟨h1, h2⟩, h3⟩, h4⟩, h5⟩ := h
  obtain ⟨x0, x1, x2, x3, rfl⟩ := len4 h1
  have h2 : x0.toList = modW := h2
  have h4 : intOk x2.data.toList = true := h4
  have h5 : stW x3.toList = true := h5
  have hs : stBr ⟨x1, decV x2.data.toList, x3.toList == onW, x3.toList == bypW⟩ = x3 := by
    unfold stBr
    dsimp only
    unfold stW at h5
    simp only [Bool.or_eq_true, beq_iff_eq] at h5
    rcases h5 with (h | h) | h
    · rw [h, if_neg (by decide), if_pos (by decide)]
      exact of_lit h
    · rw [h, if_neg (by decide), if_neg (by decide)]
      exact of_lit h
    · rw [h, if_pos (by decide)]
      exact of_lit h
  show [modB, x1, itoB (decV x2.data.toList), stBr ⟨x1, decV x2.data.toList, x3.toList == onW, x3.toList == bypW⟩] = _
  rw [ito_back h4, hs, show modB = x0 from of_lit h2]
theorem empty_of {l : ByteArray} (h : (l.toList == []) = true) : l = toB [] := by
  have := eq_of_beq h
  rw [toList_data] at this
  rw [← toB_data l, this]
theorem goA_back : ∀ (ls : List ByteArray) (y : Ar) (i : Nat) (z : Ar) (j : Nat), i ≠ 0 → goA y i ls = (z, j, 0) → j = 0 ∧ armE z = 0 ∧ ∃ bs : List ByteArray, ls = bs ++ [toB []] ∧ linesA z = linesA y ++ bs.map (fun l => spL l 32)
  | [], y, i, z, j, _, h => by
    have := congrArg (fun q => q.2.2) h
    exact absurd (show (25 : Int) = 0 from this) (by decide)
  | [l], y, i, z, j, _, h => by
    have h' : (if l.toList == [] then (if armE y = 0 then (y, 0, 0) else (nilA, i, armE y)) else (nilA, i, 25)) = (z, j, (0 : Int)) := h
    split at h'
    · rename_i hl
      split at h'
      · rename_i he
        have h1 : y = z := congrArg (fun q => q.1) h'
        have h2 : 0 = j := congrArg (fun q => q.2.1) h'
        subst h1
        exact ⟨h2.symm, he, [], by rw [empty_of hl]; rfl, by simp⟩
      · rename_i he
        exact absurd (congrArg (fun q => q.2.2) h') he
    · exact absurd (show (25 : Int) = 0 from congrArg (fun q => q.2.2) h') (by decide)
  | l :: m :: r, y, i, z, j, hi, h => by
    have h' : (if (rowA y i (spL l 32)).1 = true then goA (rowA y i (spL l 32)).2 (i + 1) (m :: r) else (nilA, i, 25)) = (z, j, (0 : Int)) := h
    split at h'
    · rename_i hz
      obtain ⟨h1, h2, bs, h3, h4⟩ := goA_back (m :: r) _ _ z j (by omega) h'
      have e0 : rowA y i (spL l 32) = (modR (spL l 32), { y with m := y.m ++ [modV (spL l 32)] }) := if_neg hi
      rw [e0] at hz h4
      refine ⟨h1, h2, l :: bs, by rw [h3]; rfl, ?_⟩
      rw [h4]
      show (headWs y :: (y.m ++ [modV (spL l 32)]).map modWs) ++ bs.map (fun l => spL l 32) = (headWs y :: y.m.map modWs) ++ (spL l 32 :: bs.map (fun l => spL l 32))
      rw [List.map_append, List.map_cons, mod_back hz]
      simp
    · exact absurd (show (25 : Int) = 0 from congrArg (fun q => q.2.2) h') (by decide)
def unl (c : UInt8) : List (List UInt8) → List UInt8
  | [] => []
  | [p] => p
  | p :: q :: r => p ++ c :: unl c (q :: r)
theorem unl_cons (c b : UInt8) (p : List UInt8) (ps : List (List UInt8)) : unl c ((b :: p) :: ps) = b :: unl c (p :: ps) := by
  cases ps <;> rfl
theorem unl_spl (c : UInt8) : ∀ l, unl c (spl c l) = l
  | [] => rfl
  | b :: r => by
    have ih := unl_spl c r
    cases hr : spl c r with
    | nil => exact absurd hr (spl_ne c r)
    | cons p ps =>
      rw [hr] at ih
      cases hb : (b == c) with
      | true =>
        rw [spl_eq hb, hr]
        show [] ++ c :: unl c (p :: ps) = _
        rw [ih, eq_of_beq hb]
        rfl
      | false => rw [spl_cons hb hr, unl_cons, ih]
theorem join_unl : ∀ ws : List (List UInt8), Lib.join ws [32] = unl 32 ws
  | [] => rfl
  | [x] => Lib.join_one ..
  | x :: z :: r => by rw [join_more, join_unl (z :: r)]; rfl
theorem body_back (l : ByteArray) : bodyL (spL l 32) = l.data.toList := by
  have e : spL l 32 = (spl 32 l.data.toList).map toB := spL_spl l 32
  unfold bodyL
  rw [e, List.map_map, show ((fun x : ByteArray => x.data.toList) ∘ toB) = id from funext fun x => by simp [toB], List.map_id, join_unl, unl_spl]
theorem unl_lines : ∀ ps : List (List UInt8), unl 10 (ps ++ [[]]) = ps.flatMap (fun p => p ++ [10])
  | [] => rfl
  | p :: ps => by
    obtain ⟨m, r, e⟩ := app_head ps ([] : List UInt8)
    rw [List.cons_append, e]
    show p ++ 10 :: unl 10 (m :: r) = _
    rw [← e, unl_lines ps, List.flatMap_cons, List.append_assoc]
    rfl
/-- Whatever is parsed is printed as it was. -/
theorem parse_back {s : ByteArray} {z : Ar} {j : Nat} (h : parseA s = (z, j, 0)) : j = 0 ∧ armE z = 0 ∧ toB (printL z) = s := by
  unfold parseA at h
  split at h
  · exact absurd (show (26 : Int) = 0 from congrArg (fun q => q.2.2) h) (by decide)
  split at h
  · exact absurd (show (25 : Int) = 0 from congrArg (fun q => q.2.2) h) (by decide)
  rename_i h1
  obtain ⟨bs, h2, h3, h4, h5⟩ : ∃ bs : List ByteArray, j = 0 ∧ armE z = 0 ∧ spL s 10 = bs ++ [toB []] ∧ linesA z = bs.map (fun l => spL l 32) := by
    generalize spL s 10 = ls at *
    match ls, h, h1 with
    | [], h, _ => exact absurd (show (25 : Int) = 0 from congrArg (fun q => q.2.2) h) (by decide)
    | [l], _, h1 => exact absurd rfl h1
    | l :: m :: r, h, _ =>
      have h' : (if (rowA nilA 0 (spL l 32)).1 = true then goA (rowA nilA 0 (spL l 32)).2 (0 + 1) (m :: r) else (nilA, 0, 25)) = (z, j, (0 : Int)) := h
      split at h'
      · rename_i hz
        obtain ⟨k1, k2, bs, k3, k4⟩ := goA_back (m :: r) _ _ z j (by omega) h'
        have hz : headR (spL l 32) = true := hz
        refine ⟨l :: bs, k1, k2, by rw [k3]; rfl, ?_⟩
        rw [k4]
        show (headWs (headV nilA (spL l 32)) :: ([] : List Md).map modWs) ++ bs.map (fun l => spL l 32) = spL l 32 :: bs.map (fun l => spL l 32)
        rw [head_back hz]
        rfl
      · exact absurd (show (25 : Int) = 0 from congrArg (fun q => q.2.2) h') (by decide)
  refine ⟨h2, h3, ?_⟩
  have e : spL s 10 = (spl 10 s.data.toList).map toB := spL_spl s 10
  have e2 : spl 10 s.data.toList = bs.map (fun x => x.data.toList) ++ [[]] := by
    have h6 := congrArg (List.map (fun x : ByteArray => x.data.toList)) (e.symm.trans h4)
    rw [List.map_map, show ((fun x : ByteArray => x.data.toList) ∘ toB) = id from funext fun x => by simp [toB], List.map_id, List.map_append] at h6
    exact h6
  have e3 : s.data.toList = bs.flatMap (fun x => x.data.toList ++ [10]) := by
    rw [← unl_spl 10 s.data.toList, e2, unl_lines, List.flatMap_map]
  rw [← toB_data s, e3]
  unfold printL
  rw [h5, List.flatMap_map]
  congr 1
  refine congrArg (fun f => List.flatMap f bs) (funext fun x => ?_)
  show bodyL (spL x 32) ++ [10] = _
  rw [body_back]
/- Sizes and numbers of pieces. -/
theorem splc_count (c : UInt8) : ∀ l : List UInt8, (spl c l).length = l.count c + 1
  | [] => rfl
  | b :: r => by
    have ih := splc_count c r
    cases hb : (b == c) with
    | true => rw [spl_eq hb, List.length_cons, ih, List.count_cons, if_pos hb]
    | false =>
      cases hr : spl c r with
      | nil => exact absurd hr (spl_ne c r)
      | cons p ps =>
        rw [spl_cons hb hr, List.length_cons, List.count_cons, hb, if_neg (by decide), ← ih, hr, List.length_cons]
theorem pcOf_len : ∀ ls : List (List UInt8), (pcOf ls).length ≤ ls.length
  | [] => Nat.le_refl _
  | [l] => by
    show (if l.isEmpty then [] else [l]).length ≤ 1
    split <;> simp
  | l :: m :: r => by
    show (pcOf (m :: r)).length + 1 ≤ (m :: r).length + 1
    exact Nat.succ_le_succ (pcOf_len (m :: r))
theorem pieces_count (l : List UInt8) : (pieces (toB l)).length ≤ l.count 10 + 1 := by
  unfold pieces
  rw [List.length_map, pcs_spl, toB_list, ← splc_count]
  exact pcOf_len _
theorem fm_len {α : Type} {f : α → List UInt8} {m : Nat} : ∀ {l : List α}, (∀ x ∈ l, (f x).length ≤ m) → (l.flatMap f).length ≤ l.length * m
  | [], _ => by simp
  | x :: r, h => by
    have := fm_len (f := f) (m := m) (l := r) (fun y hy => h y (List.mem_cons_of_mem _ hy))
    have := h x List.mem_cons_self
    rw [List.flatMap_cons, List.length_append, List.length_cons, Nat.succ_mul]
    omega
theorem printed_len {a : Ar} (h : Fit a) : (printL a).length ≤ 2000 := by
  have hz : ∀ n : Int, 0 ≤ n → n ≤ 999999999 → (itoB n).data.toList.length ≤ 9 := fun n h0 h1 => by
    have := (ito_ok h0 h1).1
    unfold intOk at this
    simp only [Bool.and_eq_true, decide_eq_true_eq] at this
    exact this.1.1.2
  have g1 := hz a.lo h.lo.1 (by have := h.lo; omega)
  have g2 := hz a.hi h.hi.1 (by have := h.hi; omega)
  have g3 := hz a.cur h.cur.1 (by have := h.cur; omega)
  have g4 := hz a.lim h.lim.1 (by have := h.lim; omega)
  have e1 : (lineL (headWs a)).length ≤ 50 := by
    rw [line_head]
    simp only [List.length_append, List.length_cons, List.length_nil]
    omega
  have e2 : ∀ x ∈ a.m, (lineL (modWs x)).length ≤ 60 := fun x hx => by
    have k1 := hz x.q (h.q x hx).1 (by have := h.q x hx; omega)
    have k2 := (name_clean (h.nm x hx)).2.2
    have k2' : x.n.data.toList.length ≤ 24 := by simpa using k2
    have k3 : (stBr x).data.toList.length ≤ 8 := by rcases st_lits x with e | e | e <;> rw [e] <;> decide
    rw [line_mod]
    simp only [List.length_append, List.length_cons, List.length_nil]
    omega
  have e3 := fm_len (l := a.m) e2
  have e4 := h.n16
  unfold printL linesA
  rw [List.flatMap_cons, List.flatMap_map, List.length_append]
  have e5 : (a.m.flatMap fun x => lineL (modWs x)).length ≤ a.m.length * 60 := e3
  omega
/-- The pieces of a printed text, and of that text without its last byte. -/
theorem printed_few {a : Ar} (h : Fit a) : (pieces (toB (printL a))).length ≤ 300 ∧ (pieces (toB (printL a).dropLast)).length ≤ 300 := by
  have e : (spL (toB (printL a)) 10).length = a.m.length + 2 := by rw [print_parts h]; simp
  have e1 : spL (toB (printL a)) 10 = (spl 10 (toB (printL a)).data.toList).map toB := spL_spl (toB (printL a)) 10
  rw [e1, List.length_map, toB_list, splc_count] at e
  have h1 := pieces_count (printL a)
  have h2 := pieces_count (printL a).dropLast
  have h3 := (List.dropLast_sublist (printL a)).count_le (10 : UInt8)
  have := h.n16
  exact ⟨by omega, by omega⟩
end Go.Proofs.YtjanojmgnpfjeaaGreatDoor
