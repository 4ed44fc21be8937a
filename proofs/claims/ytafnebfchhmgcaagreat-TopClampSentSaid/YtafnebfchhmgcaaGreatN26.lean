/- Telegrams in plain words: a frame comes back; a frame with a wrong byte does not. -/
import Derived.Test.YtafnebfchhmgcaaGreatN23
namespace Go.Proofs.YtafnebfchhmgcaaGreat
open Go Go.RowKit Go.Sort Go.Shelf
set_option linter.unusedSimpArgs false
set_option linter.unusedVariables false
attribute [local go_sem] cell_if frozen_if grow_cell
theorem ckS_ne {x y : Int} (b : Int) (hx : 0 ≤ x ∧ x < 16777199) (hy : 0 ≤ y ∧ y < 16777199) (h : x ≠ y) : ckS x b ≠ ckS y b := by
  unfold ckS
  intro he
  omega
theorem ckS_nb (x : Int) {a b : Int} (ha : 0 ≤ a ∧ a ≤ 255) (hb : 0 ≤ b ∧ b ≤ 255) (h : a ≠ b) : ckS x a ≠ ckS x b := by
  unfold ckS
  intro he
  omega
theorem ckS_bd (x b : Int) : 0 ≤ ckS x b ∧ ckS x b < 16777199 := by unfold ckS; omega
theorem cks_from : ∀ (l : List Int) (x y : Int), 0 ≤ x ∧ x < 16777199 → 0 ≤ y ∧ y < 16777199 → x ≠ y → l.foldl ckS x ≠ l.foldl ckS y
  | [], _, _, _, _, h => h
  | b :: r, _, _, hx, hy, h => cks_from r _ _ (ckS_bd _ _) (ckS_bd _ _) (ckS_ne b hx hy h)
theorem set_split {l : List Int} {j : Nat} (hj : j < l.length) (x : Int) : l.set j x = l.take j ++ x :: l.drop (j + 1) := List.set_eq_take_append_cons_drop .. |>.trans (if_pos hj)
theorem get_split {l : List Int} {j : Nat} (hj : j < l.length) : l = l.take j ++ l[j] :: l.drop (j + 1) := by
  rw [List.getElem_cons_drop, List.take_append_drop]
theorem cks_set {l : List Int} {j : Nat} (hj : j < l.length) (x : Int) (hx : 0 ≤ x ∧ x ≤ 255) (hl : ∀ b ∈ l, 0 ≤ b ∧ b ≤ 255) (h : x ≠ l[j]) : cks (l.set j x) ≠ cks l := by
  have e : cks l = cks (l.take j ++ l[j] :: l.drop (j + 1)) := congrArg cks (get_split hj)
  rw [e, set_split hj]
  unfold cks
  rw [List.foldl_append, List.foldl_append]
  exact cks_from _ _ _ (ckS_bd _ _) (ckS_bd _ _) (ckS_nb _ hx (hl _ (List.getElem_mem hj)) h)
theorem numB_from : ∀ (l : List Int) (x y : Int), x ≠ y → l.foldl (fun x b => x * 256 + b) x ≠ l.foldl (fun x b => x * 256 + b) y
  | [], _, _, h => h
  | b :: r, x, y, h => numB_from r (x * 256 + b) (y * 256 + b) (by omega)
theorem numB_set {l : List Int} {j : Nat} (hj : j < l.length) (x : Int) (h : x ≠ l[j]) : numB (l.set j x) ≠ numB l := by
  have e : numB l = numB (l.take j ++ l[j] :: l.drop (j + 1)) := congrArg numB (get_split hj)
  rw [e, set_split hj]
  unfold numB
  rw [List.foldl_append, List.foldl_append]
  refine numB_from (l.drop (j + 1)) ((l.take j).foldl (fun x b => x * 256 + b) 0 * 256 + x) ((l.take j).foldl (fun x b => x * 256 + b) 0 * 256 + l[j]) ?_
  omega
theorem decE_iff (f : List Int) : decE f = 0 ↔ f.headD 0 = 177 ∧ numB (f.drop 12) = cks (f.take 12) := by
  unfold decE firstE whenE
  generalize f.headD 0 = y
  generalize numB (f.drop 12) = u
  generalize cks (f.take 12) = v
  by_cases h1 : y = 177 <;> by_cases h2 : u = v <;> simp [h1, h2]
theorem decE_set {f : List Int} (h16 : f.length = 16) (hb : ∀ b ∈ f, 0 ≤ b ∧ b ≤ 255) (h0 : decE f = 0) {j : Nat} (hj : j < 16) {x : Int} (hx : 0 ≤ x ∧ x ≤ 255) (h : x ≠ f[j]) : decE (f.set j x) ≠ 0 := by
  obtain ⟨h1, h2⟩ := (decE_iff f).1 h0
  intro he
  obtain ⟨h3, h4⟩ := (decE_iff _).1 he
  rcases (show j = 0 ∨ (0 < j ∧ j < 12) ∨ 12 ≤ j from by omega) with rfl | ⟨_, hj2⟩ | hj2
  · match f, h16 with
    | y :: r, _ =>
      simp at h1 h3 h
      omega
  · rw [List.drop_set, if_pos hj2, List.take_set, h2] at h4
    refine cks_set (l := f.take 12) (j := j) (by rw [List.length_take]; omega) x hx (fun b hb' => hb b (List.mem_of_mem_take hb')) ?_ h4.symm
    rw [List.getElem_take]
    exact h
  · rw [List.drop_set, if_neg (by omega), List.take_set, List.set_eq_of_length_le (l := f.take 12) (by rw [List.length_take]; omega), ← h2] at h4
    refine numB_set (l := f.drop 12) (j := j - 12) (by rw [List.length_drop]; omega) x ?_ h4
    rw [List.getElem_drop]
    simpa [show 12 + (j - 12) = j by omega] using h
theorem frame_len (s c : Int) (V : Nat → Int) : (frameB s c V).length = 16 := by
  unfold frameB
  rw [List.length_append, encB_len]
  rfl
theorem frame_bytes {s c : Int} {V : Nat → Int} (h : GoodTel s c V) : ∀ b ∈ frameB s c V, 0 ≤ b ∧ b ≤ 255 := fun b hb => by
  rcases List.mem_append.1 hb with hb | hb
  · exact encB_bytes s c V h 4 b hb
  · exact l4_bd b hb
theorem frame_list (s c : Int) (V : Nat → Int) : frameB s c V = [177, s, c / 256 % 256, c % 256, V 0 / 256 % 256, V 0 % 256, V 1 / 256 % 256, V 1 % 256, V 2 / 256 % 256, V 2 % 256, V 3 / 256 % 256, V 3 % 256] ++ l4 (cks (encB s c V 4)) := by
  unfold frameB
  congr 1
theorem frame_dec {s c : Int} {V : Nat → Int} (h : GoodTel s c V) : decE (frameB s c V) = 0 ∧ decS (frameB s c V) = s ∧ decC (frameB s c V) = c ∧ ∀ i, i < 4 → decV (frameB s c V) i = V i := by
  have hc := h.c0
  have hc' := h.c1
  refine ⟨(decE_iff _).2 ⟨by rw [frame_list]; rfl, ?_⟩, by rw [frame_list]; rfl, ?_, ?_⟩
  · obtain ⟨k1, k2⟩ := cks_bound (encB s c V 4)
    unfold frameB
    rw [List.drop_append_of_le_length (by rw [encB_len]; omega), List.drop_of_length_le (by rw [encB_len]; omega), List.take_append_of_le_length (by rw [encB_len]; omega), List.take_of_length_le (by rw [encB_len]; omega), List.nil_append]
    generalize cks (encB s c V 4) = n at *
    show ((((0 * 256 + n / 65536 / 256 % 256) * 256 + n / 65536 % 256) * 256 + n / 256 % 256) * 256 + n % 256) = n
    omega
  · unfold decC
    rw [frame_list]
    show ((0 * 256 + c / 256 % 256) * 256 + c % 256) = c
    omega
  · intro i hi
    have h0 := h.v0 i hi
    have h1 := h.v1 i hi
    unfold decV
    have e : numB (((frameB s c V).drop (4 + 2 * i)).take 2) = ((0 * 256 + V i / 256 % 256) * 256 + V i % 256) := by
      rw [frame_list]
      rcases (show i = 0 ∨ i = 1 ∨ i = 2 ∨ i = 3 from by omega) with rfl | rfl | rfl | rfl <;> rfl
    rw [e]
    dsimp only
    split <;> omega
def goodF (fs : List (List Int)) (l : List (Fin fs.length)) : List (Fin fs.length) := l.filter fun k => decide (decE fs[k] = 0)
/-- The telegrams of the good frames, cell by cell. -/
def telL (fs : List (List Int)) (l : List (Fin fs.length)) : List Value := (goodF fs l).flatMap fun k => (telC (decS fs[k]) (decC fs[k]) (decV fs[k])).toList
/-- The indices of the bad ones. -/
def badL (fs : List (List Int)) (l : List (Fin fs.length)) : List Int := (l.filter fun k => !decide (decE fs[k] = 0)).map fun k => (k.1 : Int)
theorem good_yes {fs : List (List Int)} (l : List (Fin fs.length)) {k : Fin fs.length} (h : decE fs[k] = 0) : (goodF fs (l ++ [k])).length = (goodF fs l).length + 1 ∧ telL fs (l ++ [k]) = telL fs l ++ (telC (decS fs[k]) (decC fs[k]) (decV fs[k])).toList ∧ badL fs (l ++ [k]) = badL fs l := by
  have h' : decide (decE fs[k] = 0) = true := decide_eq_true h
  have e1 : goodF fs (l ++ [k]) = goodF fs l ++ [k] := by
    unfold goodF
    rw [List.filter_append, List.filter_cons_of_pos (by simpa using h')]
    rfl
  refine ⟨by rw [e1, List.length_append]; rfl, ?_, ?_⟩
  · unfold telL
    rw [e1, List.flatMap_append]
    simp
  · unfold badL
    rw [List.filter_append, List.filter_cons_of_neg (by simpa using h')]
    simp
theorem good_no {fs : List (List Int)} (l : List (Fin fs.length)) {k : Fin fs.length} (h : decE fs[k] ≠ 0) : goodF fs (l ++ [k]) = goodF fs l ∧ telL fs (l ++ [k]) = telL fs l ∧ badL fs (l ++ [k]) = badL fs l ++ [(k.1 : Int)] := by
  have h' : decide (decE fs[k] = 0) = false := decide_eq_false h
  have e1 : goodF fs (l ++ [k]) = goodF fs l := by
    unfold goodF
    rw [List.filter_append, List.filter_cons_of_neg (by simpa using h')]
    simp
  refine ⟨e1, by unfold telL; rw [e1], ?_⟩
  unfold badL
  rw [List.filter_append, List.filter_cons_of_pos (by simpa using h')]
  simp
theorem good_le (fs : List (List Int)) (l : List (Fin fs.length)) : (goodF fs l).length ≤ l.length := List.length_filter_le _ _
theorem bad_le (fs : List (List Int)) (l : List (Fin fs.length)) : (badL fs l).length ≤ l.length := by unfold badL; rw [List.length_map]; exact List.length_filter_le _ _
/-- A telegram's numbers. -/
structure Tl where
  s : Int
  c : Int
  v : Nat → Int
def Tl.cells (t : Tl) : List Value := (telC t.s t.c t.v).toList
def tls (l : List Tl) : List Value := l.flatMap Tl.cells
/-- The telegram of an order. -/
def odV (n c : Int) : Nat → Int
  | 0 => n
  | 1 => c
  | _ => 0
def odT (o : Od) (i : Nat) : Tl := ⟨7, 100 + (i : Int), odV o.n o.c⟩
/-- The telegrams of orders. -/
def odsT (l : List Od) : List Tl := l.mapIdx fun i o => odT o i
/-- The frame of an order. -/
def odF (o : Od) (i : Nat) : List Int := frameB 7 (100 + (i : Int)) (odV o.n o.c)
/-- The frames of orders. -/
def odsF (l : List Od) : List (List Int) := l.mapIdx fun i o => odF o i
theorem fTo_get {m : Nat} : ∀ {k i : Nat} (hk : k ≤ m) (hi : i < k), (fTo m k)[i]? = some ⟨i, by omega⟩
  | k + 1, i, hk, hi => by
    rw [fTo_succ (by omega)]
    by_cases h : i < k
    · rw [List.getElem?_append_left (by rw [fTo_len k (by omega)]; exact h)]
      exact fTo_get (by omega) h
    · obtain rfl : i = k := by omega
      rw [List.getElem?_append_right (by rw [fTo_len _ (by omega)]; exact Nat.le_refl _), fTo_len _ (by omega), Nat.sub_self]
      rfl
theorem fTo_map {α : Type} (l : List α) : (fTo l.length l.length).map (fun k => l[k]) = l := by
  apply List.ext_getElem?
  intro i
  rw [List.getElem?_map]
  by_cases h : i < l.length
  · rw [fTo_get (Nat.le_refl _) h, List.getElem?_eq_getElem h]
    rfl
  · rw [List.getElem?_eq_none (by rw [fTo_len _ (Nat.le_refl _)]; omega), List.getElem?_eq_none (by omega)]
    rfl
theorem fTo_mem {m : Nat} (x : Fin m) : ∀ {k : Nat}, x ∈ fTo m k → x.1 < k
  | k + 1, h => by
    unfold fTo at h
    rcases List.mem_append.1 h with h | h
    · exact Nat.lt_succ_of_lt (fTo_mem x h)
    · split at h
      · simp at h; rw [h]; exact Nat.lt_succ_self k
      · simp at h
theorem filt_to {m : Nat} (p : Fin m → Bool) (q : Nat) (h0 : ∀ k : Fin m, k.1 ≠ q → p k = true) (h1 : ∀ k : Fin m, k.1 = q → p k = false) : ∀ k, k ≤ m → (fTo m k).filter p = (fTo m k).eraseIdx q
  | 0, _ => rfl
  | k + 1, hk => by
    rw [fTo_succ (by omega), List.filter_append, filt_to p q h0 h1 k (by omega)]
    rcases (show k < q ∨ k = q ∨ q < k from by omega) with h | rfl | h
    · rw [List.filter_cons_of_pos (h0 _ (by dsimp only; omega)), List.filter_nil, List.eraseIdx_of_length_le (by rw [fTo_len k (by omega)]; omega), List.eraseIdx_of_length_le (by rw [List.length_append, fTo_len k (by omega)]; simp; omega)]
    · rw [List.filter_cons_of_neg (by rw [h1 _ rfl]; decide), List.filter_nil, List.append_nil, List.eraseIdx_append_of_length_le (by rw [fTo_len k (by omega)]; exact Nat.le_refl _), fTo_len k (by omega), Nat.sub_self, List.eraseIdx_of_length_le (by rw [fTo_len k (by omega)]; exact Nat.le_refl _)]
      simp
    · rw [List.filter_cons_of_pos (h0 _ (by dsimp only; omega)), List.filter_nil, List.eraseIdx_append_of_lt_length (by rw [fTo_len k (by omega)]; exact h)]
theorem filt_one {m : Nat} (p : Fin m → Bool) (q : Nat) (h0 : ∀ k : Fin m, k.1 ≠ q → p k = true) (h1 : ∀ k : Fin m, k.1 = q → p k = false) : ∀ k, k ≤ m → ((fTo m k).filter fun k => !p k).map (fun k => (k.1 : Int)) = if q < k then [(q : Int)] else []
  | 0, _ => rfl
  | k + 1, hk => by
    rw [fTo_succ (by omega), List.filter_append, List.map_append, filt_one p q h0 h1 k (by omega)]
    rcases (show k < q ∨ k = q ∨ q < k from by omega) with h | rfl | h
    · rw [List.filter_cons_of_neg (by rw [h0 _ (by dsimp only; omega)]; decide), if_neg (by omega), if_neg (by omega)]; rfl
    · rw [List.filter_cons_of_pos (by rw [h1 _ rfl]; decide), if_neg (by omega), if_pos (by omega)]; rfl
    · rw [List.filter_cons_of_neg (by rw [h0 _ (by dsimp only; omega)]; decide), if_pos h, if_pos (by omega)]; rfl
theorem telC_congr (s c : Int) {V V' : Nat → Int} (h : ∀ i, i < 4 → V i = V' i) : telC s c V = telC s c V' := by
  unfold telC
  rw [h 0 (by omega), h 1 (by omega), h 2 (by omega), h 3 (by omega)]
theorem odV_good {n c : Int} (hn : -32768 ≤ n ∧ n ≤ 32767) (hc : -32768 ≤ c ∧ c ≤ 32767) {i : Nat} (hi : i ≤ 1000) : GoodTel 7 (100 + (i : Int)) (odV n c) := by
  refine ⟨by omega, by omega, by omega, by omega, fun j _ => ?_, fun j _ => ?_⟩
  all_goals (rcases (show j = 0 ∨ j = 1 ∨ 2 ≤ j from by omega) with rfl | rfl | h)
  all_goals first | exact hn.1 | exact hn.2 | exact hc.1 | exact hc.2 | (obtain ⟨m, rfl⟩ := Nat.exists_eq_add_of_le' h; show _ ≤ _; simp [odV])
/-- Orders that may be sent. -/
structure SentOk (l : List Od) : Prop where
  n : ∀ o ∈ l, -32768 ≤ o.n ∧ o.n ≤ 32767
  c : ∀ o ∈ l, -32768 ≤ o.c ∧ o.c ≤ 32767
  len : l.length ≤ 8
theorem odF_good {l : List Od} (h : SentOk l) {i : Nat} (hi : i < l.length) : GoodTel 7 (100 + (i : Int)) (odV l[i].n l[i].c) :=
  odV_good (h.n _ (List.getElem_mem hi)) (h.c _ (List.getElem_mem hi)) (by have := h.len; omega)
theorem odsF_len (l : List Od) : (odsF l).length = l.length := by unfold odsF; simp
theorem odsF_get (l : List Od) {i : Nat} (hi : i < l.length) : (odsF l)[i]'(by rw [odsF_len]; exact hi) = odF l[i] i := by unfold odsF; simp
theorem odsT_len (l : List Od) : (odsT l).length = l.length := by unfold odsT; simp
theorem odsT_get (l : List Od) {i : Nat} (hi : i < l.length) : (odsT l)[i]'(by rw [odsT_len]; exact hi) = odT l[i] i := by unfold odsT; simp
/-- The stream of frames, one of them with a wrong byte. -/
def badF (l : List Od) (q j : Nat) (x : Int) : List (List Int) := (odsF l).modify q fun f => f.set j x
theorem badF_len (l : List Od) (q j : Nat) (x : Int) : (badF l q j x).length = l.length := by unfold badF; simp [odsF_len]
theorem badF_get (l : List Od) (q j : Nat) (x : Int) {i : Nat} (hi : i < l.length) : (badF l q j x)[i]'(by rw [badF_len]; exact hi) = if q = i then (odF l[i] i).set j x else odF l[i] i := by
  unfold badF
  rw [List.getElem_modify]
  simp only [odsF_get l hi]
theorem frames_of {l : List Od} (h : SentOk l) : Frames (odsF l) := by
  refine ⟨fun f hf => ?_, fun f hf => ?_⟩
  all_goals
    obtain ⟨i, hi, rfl⟩ := List.getElem_of_mem hf
    rw [odsF_len] at hi
    rw [odsF_get l hi]
  · exact frame_len _ _ _
  · exact frame_bytes (odF_good h hi)
theorem frames_bad {l : List Od} (h : SentOk l) (q j : Nat) {x : Int} (hx : 0 ≤ x ∧ x ≤ 255) : Frames (badF l q j x) := by
  refine ⟨fun f hf => ?_, fun f hf => ?_⟩
  all_goals
    obtain ⟨i, hi, rfl⟩ := List.getElem_of_mem hf
    rw [badF_len] at hi
    rw [badF_get l q j x hi]
  · split
    · rw [List.length_set]; exact frame_len _ _ _
    · exact frame_len _ _ _
  · split
    · intro b hb
      rcases List.mem_or_eq_of_mem_set hb with hb | rfl
      · exact frame_bytes (odF_good h hi) b hb
      · exact hx
    · exact frame_bytes (odF_good h hi)
theorem map_erase {α β : Type} (f : α → β) (l : List α) (q : Nat) : (l.eraseIdx q).map f = (l.map f).eraseIdx q := by
  rw [List.eraseIdx_eq_take_drop_succ, List.eraseIdx_eq_take_drop_succ, List.map_append, List.map_take, List.map_drop]
theorem fTo_mapD {α : Type} (L : List α) (d : α) {m : Nat} (h : L.length = m) : (fTo m m).map (fun k => L[k.1]?.getD d) = L := by
  subst h
  apply List.ext_getElem?
  intro i
  rw [List.getElem?_map]
  by_cases h : i < L.length
  · rw [fTo_get (Nat.le_refl _) h, List.getElem?_eq_getElem h]
    show some (L[i]?.getD d) = _
    rw [List.getElem?_eq_getElem h]
    rfl
  · rw [List.getElem?_eq_none (by rw [fTo_len _ (Nat.le_refl _)]; omega), List.getElem?_eq_none (by omega)]
    rfl
theorem flat_congr {α β : Type} {f g : α → List β} {l : List α} (h : ∀ x ∈ l, f x = g x) : l.flatMap f = l.flatMap g := by
  rw [List.flatMap_def, List.flatMap_def, List.map_congr_left h]
def tl0 : Tl := ⟨0, 0, fun _ => 0⟩
theorem telL_of {fs : List (List Int)} {l : List Od} (hl : fs.length = l.length) {G : List (Fin fs.length)} (hG : goodF fs (fTo fs.length fs.length) = G) (h : ∀ k ∈ G, (telC (decS fs[k]) (decC fs[k]) (decV fs[k])).toList = ((odsT l)[k.1]?.getD tl0).cells) : telL fs (fTo fs.length fs.length) = tls (G.map fun k => (odsT l)[k.1]?.getD tl0) := by
  unfold telL tls
  rw [hG, flat_congr h, List.flatMap_map]
theorem cells_of {l : List Od} (h : SentOk l) {i : Nat} (hi : i < l.length) : (telC (decS (odF l[i] i)) (decC (odF l[i] i)) (decV (odF l[i] i))).toList = ((odsT l)[i]?.getD tl0).cells := by
  obtain ⟨_, h1, h2, h3⟩ := frame_dec (odF_good h hi)
  rw [List.getElem?_eq_getElem (by rw [odsT_len]; exact hi), Option.getD_some, odsT_get l hi]
  unfold odF Tl.cells odT
  rw [h1, h2, telC_congr _ _ h3]
/-- All frames come: the telegrams are those that were sent. -/
theorem sent_all {l : List Od} (h : SentOk l) : (goodF (odsF l) (fTo (odsF l).length (odsF l).length)).length = l.length ∧ telL (odsF l) (fTo (odsF l).length (odsF l).length) = tls (odsT l) ∧ badL (odsF l) (fTo (odsF l).length (odsF l).length) = [] := by
  have hk' : ∀ k : Fin (odsF l).length, k.1 < l.length := fun k => Nat.lt_of_lt_of_eq k.2 (odsF_len l)
  have hg : ∀ k : Fin (odsF l).length, decE (odsF l)[k] = 0 := fun k => by
    show decE ((odsF l)[k.1]) = 0
    rw [odsF_get l (hk' k)]
    exact (frame_dec (odF_good h (hk' k))).1
  have e1 : goodF (odsF l) (fTo (odsF l).length (odsF l).length) = fTo (odsF l).length (odsF l).length := by
    unfold goodF
    rw [List.filter_eq_self]
    exact fun k _ => decide_eq_true (hg k)
  refine ⟨by rw [e1, fTo_len _ (Nat.le_refl _), odsF_len], ?_, ?_⟩
  · rw [telL_of (odsF_len l) e1 (fun k _ => ?_), fTo_mapD _ _ (by rw [odsT_len, odsF_len])]
    show (telC (decS ((odsF l)[k.1])) (decC ((odsF l)[k.1])) (decV ((odsF l)[k.1]))).toList = _
    rw [odsF_get l (hk' k)]
    exact cells_of h (hk' k)
  · unfold badL
    rw [List.filter_eq_nil_iff.2 (fun k _ => by rw [decide_eq_true (hg k)]; decide)]
    rfl
/-- One frame comes with a wrong byte: it alone is lost. -/
theorem sent_bad {l : List Od} (h : SentOk l) {q j : Nat} (hq : q < l.length) (hj : j < 16) {x : Int} (hx : 0 ≤ x ∧ x ≤ 255) (hne : x ≠ (odF l[q] q)[j]'(by unfold odF; rw [frame_len]; exact hj)) :
    (goodF (badF l q j x) (fTo (badF l q j x).length (badF l q j x).length)).length = l.length - 1 ∧ telL (badF l q j x) (fTo (badF l q j x).length (badF l q j x).length) = tls ((odsT l).eraseIdx q) ∧ badL (badF l q j x) (fTo (badF l q j x).length (badF l q j x).length) = [(q : Int)] := by
  have hk' : ∀ k : Fin (badF l q j x).length, k.1 < l.length := fun k => Nat.lt_of_lt_of_eq k.2 (badF_len l q j x)
  have hg : ∀ k : Fin (badF l q j x).length, k.1 ≠ q → decide (decE (badF l q j x)[k] = 0) = true := fun k hk => by
    apply decide_eq_true
    show decE ((badF l q j x)[k.1]) = 0
    rw [badF_get l q j x (hk' k), if_neg (fun e => hk e.symm)]
    exact (frame_dec (odF_good h (hk' k))).1
  have hb : ∀ k : Fin (badF l q j x).length, k.1 = q → decide (decE (badF l q j x)[k] = 0) = false := fun k hk => by
    apply decide_eq_false
    show decE ((badF l q j x)[k.1]) ≠ 0
    rw [badF_get l q j x (hk' k), if_pos hk.symm]
    have hf := odF_good h (hk' k)
    refine decE_set (frame_len _ _ _) (frame_bytes hf) (frame_dec hf).1 hj hx ?_
    simp only [hk]
    exact hne
  have e1 : goodF (badF l q j x) (fTo (badF l q j x).length (badF l q j x).length) = (fTo (badF l q j x).length (badF l q j x).length).eraseIdx q := filt_to _ q hg hb _ (Nat.le_refl _)
  refine ⟨by rw [e1, List.length_eraseIdx, fTo_len _ (Nat.le_refl _), badF_len, if_pos hq], ?_, ?_⟩
  · rw [telL_of (badF_len l q j x) e1 (fun k hk => ?_), map_erase, fTo_mapD _ _ (by rw [odsT_len, badF_len])]
    have hkq : k.1 ≠ q := fun e => by
      rw [List.mem_eraseIdx_iff_getElem?] at hk
      obtain ⟨i, hi, hk⟩ := hk
      have hil : i < (badF l q j x).length := by
        have := (List.getElem?_eq_some_iff.1 hk).1
        rw [fTo_len _ (Nat.le_refl _)] at this
        exact this
      rw [fTo_get (Nat.le_refl _) hil] at hk
      cases hk
      exact hi e
    show (telC (decS ((badF l q j x)[k.1])) (decC ((badF l q j x)[k.1])) (decV ((badF l q j x)[k.1]))).toList = _
    rw [badF_get l q j x (hk' k), if_neg (fun e => hkq e.symm)]
    exact cells_of h (hk' k)
  · unfold badL
    exact (filt_one _ q hg hb _ (Nat.le_refl _)).trans (if_pos (by rw [badF_len]; exact hq))
/-- The orders of telegrams. -/
def tlO (t : Tl) : Od := ⟨t.v 0, t.v 1⟩
theorem odsT_back (l : List Od) : (odsT l).map tlO = l := by
  apply List.ext_getElem
  · rw [List.length_map, odsT_len]
  · intro i h1 h2
    rw [List.getElem_map, odsT_get l h2]
    rfl
end Go.Proofs.YtafnebfchhmgcaaGreat
