/- Joined texts: CH CI UF UG UH. -/
import Derived.Lib.Hide
import Derived.Test.YtafnebfchhmgcaaGreatQb
/- The choice of an arm in plain words: a strict order on indices, the best and the worst of a list; that each exchange makes two more switchings. -/
namespace Go.Proofs.YtafnebfchhmgcaaGreat
/-- What a choice looks at: each index's charge, and whether it is on; the current. -/
structure Ck where
  ch : Int → Int
  on : Int → Bool
  cur : Int
def strictB (a b cur : Int) : Bool := if 0 ≤ cur then decide (a < b) else decide (b < a)
def betB (c : Ck) (i k : Int) : Bool := if c.ch i = c.ch k then (if c.on i = c.on k then decide (i < k) else c.on i) else strictB (c.ch i) (c.ch k) c.cur
/-- The keys by which the order is lexicographic. -/
def k1 (c : Ck) (i : Int) : Int := if 0 ≤ c.cur then c.ch i else - c.ch i
def k2 (c : Ck) (i : Int) : Int := if c.on i then 0 else 1
theorem strict_iff (c : Ck) (i k : Int) : strictB (c.ch i) (c.ch k) c.cur = true ↔ k1 c i < k1 c k := by
  unfold strictB k1
  split
  · simp
  · simp
theorem k1_eq (c : Ck) (i k : Int) : c.ch i = c.ch k ↔ k1 c i = k1 c k := by
  unfold k1
  split <;> omega
theorem k2_eq (c : Ck) (i k : Int) : c.on i = c.on k ↔ k2 c i = k2 c k := by
  unfold k2
  cases c.on i <;> cases c.on k <;> simp
theorem bet_iff (c : Ck) (i k : Int) : betB c i k = true ↔ (k1 c i < k1 c k ∨ (k1 c i = k1 c k ∧ (k2 c i < k2 c k ∨ (k2 c i = k2 c k ∧ i < k)))) := by
  unfold betB
  split
  · rename_i h
    have h1 := (k1_eq c i k).1 h
    split
    · rename_i h2
      have h3 := (k2_eq c i k).1 h2
      simp only [decide_eq_true_eq]
      omega
    · rename_i h2
      unfold k2
      cases hi : c.on i <;> cases hk : c.on k <;> simp [hi, hk] at h2 ⊢ <;> omega
  · rename_i h
    have h1 : k1 c i ≠ k1 c k := fun e => h ((k1_eq c i k).2 e)
    rw [strict_iff]
    omega
theorem bet_irrefl (c : Ck) (i : Int) : betB c i i = false := by
  cases h : betB c i i with
  | false => rfl
  | true => have := (bet_iff c i i).1 h; omega
theorem bet_asymm {c : Ck} {i k : Int} (h : betB c i k = true) : betB c k i = false := by
  cases h2 : betB c k i with
  | false => rfl
  | true => have := (bet_iff c i k).1 h; have := (bet_iff c k i).1 h2; omega
theorem bet_trans {c : Ck} {i k m : Int} (h : betB c i k = true) (h2 : betB c k m = true) : betB c i m = true := by
  have := (bet_iff c i k).1 h; have := (bet_iff c k m).1 h2; exact (bet_iff c i m).2 (by omega)
theorem bet_total {c : Ck} {i k : Int} (h : i ≠ k) : betB c i k = true ∨ betB c k i = true := by
  rw [bet_iff, bet_iff]; omega
/-- Better or the same. -/
def leB (c : Ck) (i k : Int) : Prop := betB c k i = false
theorem le_of_bet {c : Ck} {i k : Int} (h : betB c i k = true) : leB c i k := bet_asymm h
theorem le_refl_ (c : Ck) (i : Int) : leB c i i := bet_irrefl c i
theorem le_cases {c : Ck} {i k : Int} (h : leB c i k) : i = k ∨ betB c i k = true := by
  rcases Classical.em (i = k) with e | e
  · exact .inl e
  · rcases bet_total (c := c) e with h1 | h1
    · exact .inr h1
    · rw [show betB c k i = false from h] at h1; cases h1
theorem le_trans_ {c : Ck} {i k m : Int} (h : leB c i k) (h2 : leB c k m) : leB c i m := by
  rcases le_cases h with rfl | h1
  · exact h2
  · rcases le_cases h2 with rfl | h3
    · exact h
    · exact le_of_bet (bet_trans h1 h3)
theorem le_antisymm_ {c : Ck} {i k : Int} (h : leB c i k) (h2 : leB c k i) : i = k := by
  rcases le_cases h with e | e
  · exact e
  · rw [show betB c i k = false from h2] at e; cases e
/-- The best of a list, and the worst one. -/
def bestGo (c : Ck) : Int → List Int → Int
  | o, [] => o
  | o, z :: r => bestGo c (if betB c z o then z else o) r
def worstGo (c : Ck) : Int → List Int → Int
  | o, [] => o
  | o, z :: r => worstGo c (if betB c o z then z else o) r
def bestL (c : Ck) (l : List Int) : Int := match l with
  | [] => -1
  | x :: r => bestGo c x r
def worstL (c : Ck) (l : List Int) : Int := match l with
  | [] => -1
  | x :: r => worstGo c x r
theorem bestGo_spec (c : Ck) : ∀ (r : List Int) (o : Int), (bestGo c o r = o ∨ bestGo c o r ∈ r) ∧ leB c (bestGo c o r) o ∧ ∀ z ∈ r, leB c (bestGo c o r) z
  | [], o => ⟨.inl rfl, le_refl_ c o, fun z hz => by cases hz⟩
  | x :: r, o => by
    have ih := bestGo_spec c r (if betB c x o then x else o)
    have e : bestGo c o (x :: r) = bestGo c (if betB c x o then x else o) r := rfl
    rw [e]
    generalize hm : bestGo c (if betB c x o then x else o) r = m at *
    cases hx : betB c x o with
    | true =>
      rw [hx, if_pos rfl] at ih
      obtain ⟨h1, h2, h3⟩ := ih
      refine ⟨.inr (h1.elim (fun h => by rw [h]; exact List.mem_cons_self ..) (fun h => List.mem_cons_of_mem _ h)), le_trans_ h2 (le_of_bet hx), fun z hz => ?_⟩
      rcases List.mem_cons.1 hz with rfl | h
      · exact h2
      · exact h3 z h
    | false =>
      rw [hx, if_neg (by decide)] at ih
      obtain ⟨h1, h2, h3⟩ := ih
      refine ⟨h1.imp id (List.mem_cons_of_mem _), h2, fun z hz => ?_⟩
      rcases List.mem_cons.1 hz with rfl | h
      · exact le_trans_ h2 hx
      · exact h3 z h
theorem worstGo_spec (c : Ck) : ∀ (r : List Int) (o : Int), (worstGo c o r = o ∨ worstGo c o r ∈ r) ∧ leB c o (worstGo c o r) ∧ ∀ z ∈ r, leB c z (worstGo c o r)
  | [], o => ⟨.inl rfl, le_refl_ c o, fun z hz => by cases hz⟩
  | x :: r, o => by
    have ih := worstGo_spec c r (if betB c o x then x else o)
    have e : worstGo c o (x :: r) = worstGo c (if betB c o x then x else o) r := rfl
    rw [e]
    generalize hm : worstGo c (if betB c o x then x else o) r = m at *
    cases hx : betB c o x with
    | true =>
      rw [hx, if_pos rfl] at ih
      obtain ⟨h1, h2, h3⟩ := ih
      refine ⟨.inr (h1.elim (fun h => by rw [h]; exact List.mem_cons_self ..) (fun h => List.mem_cons_of_mem _ h)), le_trans_ (le_of_bet hx) h2, fun z hz => ?_⟩
      rcases List.mem_cons.1 hz with rfl | h
      · exact h2
      · exact h3 z h
    | false =>
      rw [hx, if_neg (by decide)] at ih
      obtain ⟨h1, h2, h3⟩ := ih
      refine ⟨h1.imp id (List.mem_cons_of_mem _), h2, fun z hz => ?_⟩
      rcases List.mem_cons.1 hz with rfl | h
      · exact le_trans_ hx h2
      · exact h3 z h
theorem bestL_spec {c : Ck} {l : List Int} (h : l ≠ []) : bestL c l ∈ l ∧ ∀ z ∈ l, leB c (bestL c l) z := by
  cases l with
  | nil => exact absurd rfl h
  | cons x r =>
    obtain ⟨h1, h2, h3⟩ := bestGo_spec c r x
    refine ⟨?_, fun z hz => ?_⟩
    · show bestGo c x r ∈ _
      rcases h1 with e | e
      · rw [e]; exact List.mem_cons_self ..
      · exact List.mem_cons_of_mem _ e
    · rcases List.mem_cons.1 hz with rfl | h
      · exact h2
      · exact h3 z h
theorem worstL_spec {c : Ck} {l : List Int} (h : l ≠ []) : worstL c l ∈ l ∧ ∀ z ∈ l, leB c z (worstL c l) := by
  cases l with
  | nil => exact absurd rfl h
  | cons x r =>
    obtain ⟨h1, h2, h3⟩ := worstGo_spec c r x
    refine ⟨?_, fun z hz => ?_⟩
    · show worstGo c x r ∈ _
      rcases h1 with e | e
      · rw [e]; exact List.mem_cons_self ..
      · exact List.mem_cons_of_mem _ e
    · rcases List.mem_cons.1 hz with rfl | h
      · exact h2
      · exact h3 z h
theorem best_unique {c : Ck} {l : List Int} {m : Int} (hm : m ∈ l) (h : ∀ z ∈ l, leB c m z) : bestL c l = m := by
  have hne : l ≠ [] := by intro e; rw [e] at hm; cases hm
  obtain ⟨h1, h2⟩ := bestL_spec (c := c) hne
  exact le_antisymm_ (h2 m hm) (h _ h1)
theorem worst_unique {c : Ck} {l : List Int} {m : Int} (hm : m ∈ l) (h : ∀ z ∈ l, leB c z m) : worstL c l = m := by
  have hne : l ≠ [] := by intro e; rw [e] at hm; cases hm
  obtain ⟨h1, h2⟩ := worstL_spec (c := c) hne
  exact le_antisymm_ (h _ h1) (h2 m hm)
/-- The elements that are not in another list. -/
def wout (l o : List Int) : List Int := l.filter fun x => !(o.contains x)
theorem mem_wout {l o : List Int} {x : Int} : x ∈ wout l o ↔ x ∈ l ∧ x ∉ o := by
  unfold wout
  rw [List.mem_filter]
  simp
/-- The ranked ones: each list has one order in which the better ones come first. -/
def insB (c : Ck) (x : Int) : List Int → List Int
  | [] => [x]
  | z :: r => if betB c x z then x :: z :: r else z :: insB c x r
def rankL (c : Ck) : List Int → List Int
  | [] => []
  | x :: r => insB c x (rankL c r)
theorem insB_perm (c : Ck) (x : Int) : ∀ l, (insB c x l).Perm (x :: l)
  | [] => List.Perm.refl _
  | z :: r => by
    unfold insB
    split
    · exact List.Perm.refl _
    · exact ((insB_perm c x r).cons z).trans (List.Perm.swap x z r)
theorem rankL_perm (c : Ck) : ∀ l, (rankL c l).Perm l
  | [] => List.Perm.refl _
  | x :: r => (insB_perm c x _).trans ((rankL_perm c r).cons x)
theorem insB_sorted (c : Ck) (x : Int) : ∀ l : List Int, l.Pairwise (leB c) → (insB c x l).Pairwise (leB c)
  | [], _ => List.pairwise_singleton ..
  | z :: r, h => by
    obtain ⟨h1, h2⟩ := List.pairwise_cons.1 h
    unfold insB
    split
    · rename_i hx
      exact List.pairwise_cons.2 ⟨fun y hy => by
        rcases List.mem_cons.1 hy with rfl | hy
        · exact le_of_bet hx
        · exact le_trans_ (le_of_bet hx) (h1 y hy), h⟩
    · rename_i hx
      refine List.pairwise_cons.2 ⟨fun y hy => ?_, insB_sorted c x r h2⟩
      rcases List.mem_cons.1 ((insB_perm c x r).subset hy) with rfl | hy
      · simpa [leB] using hx
      · exact h1 y hy
theorem rankL_sorted (c : Ck) : ∀ l, (rankL c l).Pairwise (leB c)
  | [] => List.Pairwise.nil
  | x :: r => insB_sorted c x _ (rankL_sorted c r)
theorem rank_unique {c : Ck} {l r : List Int} (hp : r.Perm l) (hs : r.Pairwise (leB c)) : r = rankL c l :=
  List.Perm.eq_of_pairwise (fun _ _ _ _ h1 h2 => le_antisymm_ h1 h2) hs (rankL_sorted c l) (hp.trans (rankL_perm c l).symm)
/-- The first one outside a set is the best one outside. -/
theorem find_best {c : Ck} {set : List Int} : ∀ {r : List Int}, r.Pairwise (leB c) → r.find? (fun x => !(set.contains x)) = if wout r set = [] then none else some (bestL c (wout r set))
  | [], _ => rfl
  | x :: r, h => by
    obtain ⟨h1, h2⟩ := List.pairwise_cons.1 h
    cases hx : set.contains x with
    | true =>
      have e : wout (x :: r) set = wout r set := by unfold wout; rw [List.filter_cons, hx]; rfl
      rw [List.find?_cons, hx, e]
      exact find_best h2
    | false =>
      have e : wout (x :: r) set = x :: wout r set := by unfold wout; rw [List.filter_cons, hx]; rfl
      rw [List.find?_cons, hx, e, if_neg (by simp)]
      show some x = _
      congr 1
      refine (best_unique (List.mem_cons_self ..) fun z hz => ?_).symm
      rcases List.mem_cons.1 hz with rfl | hz
      · exact le_refl_ c _
      · exact h1 z (mem_wout.1 hz).1
/-- The last one inside a set that lies in the list is the worst of the set. -/
def lastIn (set : List Int) : Int → List Int → Int
  | a, [] => a
  | a, x :: r => lastIn set (if set.contains x then x else a) r
theorem lastIn_spec {c : Ck} {set : List Int} : ∀ (r : List Int) (a : Int), r.Pairwise (leB c) → (∀ z ∈ r, leB c a z) → (lastIn set a r = a ∨ (lastIn set a r ∈ r ∧ lastIn set a r ∈ set)) ∧ leB c a (lastIn set a r) ∧ ∀ z ∈ r, z ∈ set → leB c z (lastIn set a r)
  | [], a, _, _ => ⟨.inl rfl, le_refl_ c a, fun z hz => by cases hz⟩
  | x :: r, a, h, ha => by
    obtain ⟨h1, h2⟩ := List.pairwise_cons.1 h
    have e : lastIn set a (x :: r) = lastIn set (if set.contains x then x else a) r := rfl
    rw [e]
    cases hx : set.contains x with
    | true =>
      rw [if_pos rfl]
      obtain ⟨g1, g2, g3⟩ := lastIn_spec (c := c) (set := set) r x h2 h1
      refine ⟨.inr ?_, le_trans_ (ha x (List.mem_cons_self ..)) g2, fun z hz hs => ?_⟩
      · rcases g1 with e | ⟨e1, e2⟩
        · rw [e]; exact ⟨List.mem_cons_self .., by simpa using hx⟩
        · exact ⟨List.mem_cons_of_mem _ e1, e2⟩
      · rcases List.mem_cons.1 hz with rfl | hz
        · exact g2
        · exact g3 z hz hs
    | false =>
      rw [if_neg (by decide)]
      obtain ⟨g1, g2, g3⟩ := lastIn_spec (c := c) (set := set) r a h2 (fun z hz => ha z (List.mem_cons_of_mem _ hz))
      refine ⟨g1.imp id (fun ⟨e1, e2⟩ => ⟨List.mem_cons_of_mem _ e1, e2⟩), g2, fun z hz hs => ?_⟩
      rcases List.mem_cons.1 hz with rfl | hz
      · rw [show set.contains z = true by simpa using hs] at hx; cases hx
      · exact g3 z hz hs
theorem last_worst {c : Ck} {set : List Int} : ∀ {r : List Int} (a : Int), r.Pairwise (leB c) → (∀ x ∈ set, x ∈ r) → set ≠ [] → lastIn set a r = worstL c set
  | [], a, _, hs, hne => by
    cases set with
    | nil => exact absurd rfl hne
    | cons z t => exact absurd (hs z (List.mem_cons_self ..)) (by simp)
  | x :: r, a, h, hs, hne => by
    obtain ⟨h1, h2⟩ := List.pairwise_cons.1 h
    have e : lastIn set a (x :: r) = lastIn set (if set.contains x then x else a) r := rfl
    rw [e]
    cases hx : set.contains x with
    | true =>
      rw [if_pos rfl]
      obtain ⟨g1, g2, g3⟩ := lastIn_spec (c := c) (set := set) r x h2 h1
      refine (worst_unique ?_ fun z hz => ?_).symm
      · rcases g1 with e | ⟨_, e2⟩
        · rw [e]; simpa using hx
        · exact e2
      · rcases List.mem_cons.1 (hs z hz) with rfl | hz'
        · exact g2
        · exact g3 z hz' hz
    | false =>
      rw [if_neg (by decide)]
      refine last_worst a h2 (fun z hz => ?_) hne
      rcases List.mem_cons.1 (hs z hz) with rfl | hz'
      · rw [show set.contains z = true by simpa using hz] at hx; cases hx
      · exact hz'
theorem lastIn_none {set : List Int} (h : set = []) : ∀ (r : List Int) (a : Int), lastIn set a r = a
  | [], a => rfl
  | x :: r, a => by
    subst h
    show lastIn [] (if ([] : List Int).contains x then x else a) r = a
    rw [show ([] : List Int).contains x = false from rfl, if_neg (by decide)]
    exact lastIn_none rfl r a
/-- The switchings from one set to another one. -/
def chgN (s0 set : List Int) : Nat := (wout s0 set).length + (wout set s0).length
/-- One exchange. -/
def exch (set : List Int) (o i : Int) : List Int := wout set [o] ++ [i]
theorem wout_one (l : List Int) (o : Int) : wout l [o] = l.filter fun x => !(x == o) := by
  unfold wout
  refine List.filter_congr fun x _ => ?_
  by_cases h : x = o
  · subst h; simp
  · simp [h]
theorem mem_exch {set : List Int} {o i x : Int} : x ∈ exch set o i ↔ (x ∈ set ∧ x ≠ o) ∨ x = i := by
  unfold exch
  rw [List.mem_append, mem_wout, List.mem_singleton, List.mem_singleton]
/-- Of lists without repetition: how long a list is without an element. -/
theorem len_out {l : List Int} (hn : l.Nodup) {o : Int} (h : o ∈ l) : (l.filter fun x => !(x == o)).length + 1 = l.length := by
  induction l with
  | nil => cases h
  | cons x r ih =>
    obtain ⟨h1, h2⟩ := List.nodup_cons.1 hn
    rw [List.filter_cons]
    by_cases e : x = o
    · subst e
      rw [if_neg (by simp), List.length_cons]
      congr 1
      congr 1
      refine List.filter_eq_self.2 fun z hz => ?_
      have : z ≠ x := fun e => h1 (e ▸ hz)
      simpa using this
    · rw [if_pos (by simpa using e), List.length_cons, List.length_cons, ih h2 ((List.mem_cons.1 h).resolve_left (fun q => e q.symm))]
theorem wout_perm_len {l o o' : List Int} (h : ∀ x, x ∈ l → (x ∈ o ↔ x ∈ o')) : wout l o = wout l o' := by
  unfold wout
  refine List.filter_congr fun x hx => ?_
  by_cases hq : x ∈ o
  · have := (h x hx).1 hq; simp [hq, this]
  · have : x ∉ o' := fun q => hq ((h x hx).2 q)
    simp [hq, this]
theorem wout_nodup {l o : List Int} (h : l.Nodup) : (wout l o).Nodup := h.sublist List.filter_sublist
/-- An exchange of one that was on for one that was not makes two more switchings. -/
theorem chg_exch {s0 set : List Int} {o i : Int} (h0 : s0.Nodup) (ho : o ∈ set) (ho0 : o ∈ s0) (hi0 : i ∉ s0) : chgN s0 (exch set o i) = chgN s0 set + 2 := by
  unfold chgN
  have e1 : (wout s0 (exch set o i)).length = (wout s0 set).length + 1 := by
    have ha : wout s0 set = (wout s0 (exch set o i)).filter fun x => !(x == o) := by
      unfold wout
      rw [List.filter_filter]
      refine List.filter_congr fun x hx => ?_
      have hxi : x ≠ i := fun e => hi0 (e ▸ hx)
      by_cases hq : x = o
      · subst hq; simp [ho]
      · by_cases hm : x ∈ set
        · have : x ∈ exch set o i := mem_exch.2 (.inl ⟨hm, hq⟩)
          simp [hm, this]
        · have : x ∉ exch set o i := fun e => by rcases mem_exch.1 e with h | h; exact hm h.1; exact hxi h
          simp [hm, this, hq]
    rw [ha]
    exact (len_out (wout_nodup h0) (mem_wout.2 ⟨ho0, fun e => by rcases mem_exch.1 e with h | h; exact h.2 rfl; exact hi0 (h ▸ ho0)⟩)).symm
  have e2 : (wout (exch set o i) s0).length = (wout set s0).length + 1 := by
    have hb : wout (exch set o i) s0 = wout set s0 ++ [i] := by
      unfold exch wout
      rw [List.filter_append, List.filter_filter]
      congr 1
      · refine List.filter_congr fun x _ => ?_
        by_cases hq : x = o
        · subst hq; simp [ho0]
        · simp [hq]
      · simp [hi0]
    rw [hb, List.length_append]
    rfl
  omega
/-- What holds of the sets on the way: what came in is better than all that is out; what went out is worse than all that is in. -/
structure Fair (c : Ck) (U s0 set : List Int) : Prop where
  nd : set.Nodup
  sub : ∀ x ∈ set, x ∈ U
  a : ∀ x ∈ set, x ∉ s0 → ∀ z ∈ wout U set, leB c x z
  b : ∀ z ∈ s0, z ∉ set → ∀ x ∈ set, leB c x z
theorem Fair.start {c : Ck} {U s0 : List Int} (h0 : s0.Nodup) (hs : ∀ x ∈ s0, x ∈ U) : Fair c U s0 s0 :=
  ⟨h0, hs, fun _ hx hn => absurd hx hn, fun _ hz hn => absurd hz hn⟩
theorem nodup_snoc {l : List Int} {x : Int} (h : l.Nodup) (hx : x ∉ l) : (l ++ [x]).Nodup :=
  List.nodup_append.2 ⟨h, List.nodup_cons.2 ⟨by simp, List.nodup_nil⟩, fun a ha b hb e => hx (by rw [List.mem_singleton] at hb; rw [← hb, ← e]; exact ha)⟩
/-- The best one comes in; none has gone out yet. -/
theorem Fair.add {c : Ck} {U s0 set : List Int} (h : Fair c U s0 set) (hall : ∀ z ∈ s0, z ∈ set) (hne : wout U set ≠ []) : Fair c U s0 (set ++ [bestL c (wout U set)]) ∧ ∀ z ∈ s0, z ∈ set ++ [bestL c (wout U set)] := by
  obtain ⟨hm, hb⟩ := bestL_spec (c := c) hne
  generalize bestL c (wout U set) = i at *
  obtain ⟨hiU, hi⟩ := mem_wout.1 hm
  have hall' : ∀ z ∈ s0, z ∈ set ++ [i] := fun z hz => List.mem_append_left _ (hall z hz)
  refine ⟨⟨nodup_snoc h.nd hi, fun x hx => ?_, fun x hx hn z hz => ?_, fun z hz hn => absurd (hall' z hz) hn⟩, hall'⟩
  · rcases List.mem_append.1 hx with hx | hx
    · exact h.sub x hx
    · rw [List.mem_singleton.1 hx]; exact hiU
  · obtain ⟨hz1, hz2⟩ := mem_wout.1 hz
    have hz3 : z ∈ wout U set := mem_wout.2 ⟨hz1, fun e => hz2 (List.mem_append_left _ e)⟩
    rcases List.mem_append.1 hx with hx | hx
    · exact h.a x hx hn z hz3
    · rw [List.mem_singleton.1 hx]; exact hb z hz3
/-- The worst one goes out; none has come in yet. -/
theorem Fair.del {c : Ck} {U s0 set : List Int} (h : Fair c U s0 set) (hall : ∀ x ∈ set, x ∈ s0) (hne : set ≠ []) : Fair c U s0 (wout set [worstL c set]) ∧ ∀ x ∈ wout set [worstL c set], x ∈ s0 := by
  obtain ⟨hm, hw⟩ := worstL_spec (c := c) hne
  generalize worstL c set = o at *
  have hall' : ∀ x ∈ wout set [o], x ∈ s0 := fun x hx => hall x (mem_wout.1 hx).1
  refine ⟨⟨wout_nodup h.nd, fun x hx => h.sub x (mem_wout.1 hx).1, fun x hx hn => absurd (hall' x hx) hn, fun z hz hn x hx => ?_⟩, hall'⟩
  have hx1 := (mem_wout.1 hx).1
  by_cases e : z = o
  · rw [e]; exact hw x hx1
  · exact h.b z hz (fun q => hn (mem_wout.2 ⟨q, fun e2 => e (List.mem_singleton.1 e2)⟩)) x hx1
/-- An exchange by charges: the one that goes out was on, the one that comes in was not; and the set stays fair. -/
theorem Fair.exch {c : Ck} {U s0 set : List Int} (h : Fair c U s0 set) (hs0 : ∀ x ∈ s0, x ∈ U) (hne : set ≠ []) (hnu : wout U set ≠ []) (hst : strictB (c.ch (bestL c (wout U set))) (c.ch (worstL c set)) c.cur = true) :
    bestL c (wout U set) ∉ s0 ∧ worstL c set ∈ s0 ∧ Fair c U s0 (Go.Proofs.YtafnebfchhmgcaaGreat.exch set (worstL c set) (bestL c (wout U set))) := by
  obtain ⟨hm, hb⟩ := bestL_spec (c := c) hnu
  obtain ⟨hm2, hw⟩ := worstL_spec (c := c) hne
  generalize bestL c (wout U set) = i at *
  generalize worstL c set = o at *
  obtain ⟨hiU, hi⟩ := mem_wout.1 hm
  have hbt : betB c i o = true := (bet_iff c i o).2 (.inl ((strict_iff c i o).1 hst))
  have hio : ¬ leB c o i := fun e => by rw [show betB c i o = false from e] at hbt; cases hbt
  have h1 : i ∉ s0 := fun e => hio (h.b i e hi o hm2)
  have h2 : o ∈ s0 := Classical.byContradiction fun e => hio (h.a o hm2 e i hm)
  refine ⟨h1, h2, ?_, fun x hx => ?_, fun x hx hn z hz => ?_, fun z hz hn x hx => ?_⟩
  · unfold Go.Proofs.YtafnebfchhmgcaaGreat.exch
    exact nodup_snoc (wout_nodup h.nd) (fun e => hi (mem_wout.1 e).1)
  · rcases mem_exch.1 hx with ⟨hx, _⟩ | rfl
    · exact h.sub x hx
    · exact hiU
  · obtain ⟨hz1, hz2⟩ := mem_wout.1 hz
    have hzi : z ≠ i := fun e => hz2 (mem_exch.2 (.inr e))
    have hx' : leB c x o ∧ ∀ y ∈ wout U set, leB c x y := by
      rcases mem_exch.1 hx with ⟨hx, _⟩ | rfl
      · exact ⟨hw x hx, h.a x hx hn⟩
      · exact ⟨le_of_bet hbt, hb⟩
    by_cases e : z = o
    · rw [e]; exact hx'.1
    · exact hx'.2 z (mem_wout.2 ⟨hz1, fun q => hz2 (mem_exch.2 (.inl ⟨q, e⟩))⟩)
  · have hzo : z = o ∨ z ∉ set := by
      by_cases e : z = o
      · exact .inl e
      · exact .inr fun q => hn (mem_exch.2 (.inl ⟨q, e⟩))
    rcases mem_exch.1 hx with ⟨hx1, _⟩ | rfl
    · rcases hzo with e | hzo
      · rw [e]; exact hw x hx1
      · exact h.b z hz hzo x hx1
    · rcases hzo with rfl | hzo
      · exact le_of_bet hbt
      · exact hb z (mem_wout.2 ⟨hs0 z hz, hzo⟩)
end Go.Proofs.YtafnebfchhmgcaaGreat
/- The choice of an arm in plain words: its three loops. -/
namespace Go.Proofs.YtafnebfchhmgcaaGreat
def addTo (c : Ck) (U : List Int) : Nat → List Int → List Int
  | 0, set => set
  | k + 1, set => addTo c U k (set ++ [bestL c (wout U set)])
def delTo (c : Ck) : Nat → List Int → List Int
  | 0, set => set
  | k + 1, set => delTo c k (wout set [worstL c set])
/-- Whether an exchange is made. -/
def goB (c : Ck) (U : List Int) (lim ch : Int) (set : List Int) : Bool :=
  !(set == []) && !(wout U set == []) && decide (ch + 2 ≤ lim) && strictB (c.ch (bestL c (wout U set))) (c.ch (worstL c set)) c.cur
def exTo (c : Ck) (U : List Int) (lim : Int) : Nat → Int → List Int → List Int
  | 0, _, set => set
  | f + 1, ch, set => if goB c U lim ch set then exTo c U lim f (ch + 2) (exch set (worstL c set) (bestL c (wout U set))) else set
def firstSet (c : Ck) (U s0 : List Int) (n : Nat) : List Int := if s0.length < n then addTo c U (n - s0.length) s0 else delTo c (s0.length - n) s0
def choiceU (c : Ck) (U s0 : List Int) (n : Nat) (lim : Int) : List Int := exTo c U lim (s0.length + 1) (chgN s0 (firstSet c U s0 n)) (firstSet c U s0 n)
theorem wout_len {U set : List Int} (hU : U.Nodup) (hn : set.Nodup) (hs : ∀ x ∈ set, x ∈ U) : (wout U set).length + set.length = U.length := by
  induction set with
  | nil => unfold wout; simp
  | cons x r ih =>
    obtain ⟨h1, h2⟩ := List.nodup_cons.1 hn
    have := ih h2 fun z hz => hs z (List.mem_cons_of_mem _ hz)
    have e : wout U (x :: r) = (wout U r).filter fun z => !(z == x) := by
      unfold wout
      rw [List.filter_filter]
      refine List.filter_congr fun z _ => ?_
      rw [List.contains_cons]
      cases z == x <;> cases r.contains z <;> rfl
    have := len_out (wout_nodup hU) (mem_wout.2 ⟨hs x (List.mem_cons_self ..), h1⟩)
    rw [e, List.length_cons]
    omega
/-- On the way in: all that was on is in. -/
structure AddI (c : Ck) (U s0 : List Int) (n : Nat) (set : List Int) : Prop where
  fair : Fair c U s0 set
  all : ∀ z ∈ s0, z ∈ set
  le : set.length ≤ n
  eq : addTo c U (n - set.length) set = addTo c U (n - s0.length) s0
theorem AddI.start {c : Ck} {U s0 : List Int} {n : Nat} (h0 : s0.Nodup) (hs : ∀ x ∈ s0, x ∈ U) (hn : s0.length ≤ n) : AddI c U s0 n s0 :=
  ⟨Fair.start h0 hs, fun _ h => h, hn, rfl⟩
theorem AddI.ne {c : Ck} {U s0 set : List Int} {n : Nat} (h : AddI c U s0 n set) (hU : U.Nodup) (hn : n ≤ U.length) (hlt : set.length < n) : wout U set ≠ [] := by
  intro e
  have := wout_len hU h.fair.nd h.fair.sub
  rw [e] at this
  simp at this
  omega
theorem AddI.step {c : Ck} {U s0 set : List Int} {n : Nat} (h : AddI c U s0 n set) (hU : U.Nodup) (hn : n ≤ U.length) (hlt : set.length < n) : AddI c U s0 n (set ++ [bestL c (wout U set)]) := by
  obtain ⟨h1, h2⟩ := h.fair.add h.all (h.ne hU hn hlt)
  refine ⟨h1, h2, by simp; omega, ?_⟩
  rw [← h.eq, show n - set.length = (n - (set ++ [bestL c (wout U set)]).length) + 1 by simp; omega]
  rfl
theorem AddI.fin {c : Ck} {U s0 set : List Int} {n : Nat} (h : AddI c U s0 n set) (hlt : ¬ set.length < n) (h0 : s0.length < n) : firstSet c U s0 n = set := by
  unfold firstSet
  rw [if_pos h0, ← h.eq, show n - set.length = 0 by omega]
  rfl
/-- On the way out: all that is in was on. -/
structure DelI (c : Ck) (U s0 : List Int) (n : Nat) (set : List Int) : Prop where
  fair : Fair c U s0 set
  all : ∀ x ∈ set, x ∈ s0
  le : n ≤ set.length
  eq : delTo c (set.length - n) set = delTo c (s0.length - n) s0
theorem DelI.start {c : Ck} {U s0 : List Int} {n : Nat} (h0 : s0.Nodup) (hs : ∀ x ∈ s0, x ∈ U) (hn : n ≤ s0.length) : DelI c U s0 n s0 :=
  ⟨Fair.start h0 hs, fun _ h => h, hn, rfl⟩
theorem wout_one_len {set : List Int} {o : Int} (hn : set.Nodup) (h : o ∈ set) : (wout set [o]).length + 1 = set.length := by
  rw [wout_one]
  exact len_out hn h
theorem DelI.step {c : Ck} {U s0 set : List Int} {n : Nat} (h : DelI c U s0 n set) (hlt : n < set.length) : DelI c U s0 n (wout set [worstL c set]) := by
  have hne : set ≠ [] := by intro e; rw [e] at hlt; simp at hlt
  obtain ⟨h1, h2⟩ := h.fair.del h.all hne
  have hl := wout_one_len h.fair.nd (worstL_spec (c := c) hne).1
  refine ⟨h1, h2, by omega, ?_⟩
  rw [← h.eq, show set.length - n = ((wout set [worstL c set]).length - n) + 1 by omega]
  rfl
theorem DelI.fin {c : Ck} {U s0 set : List Int} {n : Nat} (h : DelI c U s0 n set) (hlt : ¬ n < set.length) (h0 : ¬ s0.length < n) : firstSet c U s0 n = set := by
  unfold firstSet
  rw [if_neg h0, ← h.eq, show set.length - n = 0 by omega]
  rfl
/-- The first set: as many as ordered, fair, and its switchings. -/
theorem addTo_I {c : Ck} {U s0 : List Int} {n : Nat} (hU : U.Nodup) (hn : n ≤ U.length) : ∀ (k : Nat) (set : List Int), n - set.length = k → AddI c U s0 n set → AddI c U s0 n (addTo c U k set) ∧ (addTo c U k set).length = n
  | 0, set, e, h => ⟨h, by have := h.le; show set.length = n; omega⟩
  | k + 1, set, e, h => addTo_I hU hn k _ (by simp; omega) (h.step hU hn (by omega))
theorem delTo_I {c : Ck} {U s0 : List Int} {n : Nat} : ∀ (k : Nat) (set : List Int), set.length - n = k → DelI c U s0 n set → DelI c U s0 n (delTo c k set) ∧ (delTo c k set).length = n
  | 0, set, e, h => ⟨h, by have := h.le; show set.length = n; omega⟩
  | k + 1, set, e, h => by
    have hne : set ≠ [] := by intro q; rw [q] at e; simp at e
    have hl := wout_one_len h.fair.nd (worstL_spec (c := c) hne).1
    exact delTo_I k _ (by omega) (h.step (by omega))
theorem wout_all {l o : List Int} (h : ∀ x ∈ l, x ∈ o) : wout l o = [] := by
  unfold wout
  refine List.filter_eq_nil_iff.2 fun x hx => ?_
  simpa using h x hx
theorem first_spec {c : Ck} {U s0 : List Int} {n : Nat} (hU : U.Nodup) (h0 : s0.Nodup) (hs : ∀ x ∈ s0, x ∈ U) (hn : n ≤ U.length) :
    Fair c U s0 (firstSet c U s0 n) ∧ (firstSet c U s0 n).length = n ∧ (chgN s0 (firstSet c U s0 n) : Int) = max ((n : Int) - s0.length) ((s0.length : Int) - n) := by
  unfold firstSet
  split
  · rename_i h
    obtain ⟨h1, h2⟩ := addTo_I hU hn (n - s0.length) s0 rfl (AddI.start (c := c) h0 hs (by omega))
    refine ⟨h1.fair, h2, ?_⟩
    have e1 := wout_all h1.all
    have e2 := wout_len h1.fair.nd h0 h1.all
    unfold chgN
    rw [e1]
    simp only [List.length_nil, Nat.zero_add]
    omega
  · rename_i h
    obtain ⟨h1, h2⟩ := delTo_I (s0.length - n) s0 rfl (DelI.start (c := c) h0 hs (by omega))
    refine ⟨h1.fair, h2, ?_⟩
    have e1 := wout_all h1.all
    have e2 := wout_len h0 h1.fair.nd h1.all
    unfold chgN
    rw [e1]
    simp only [List.length_nil, Nat.add_zero]
    omega
theorem exch_len {set : List Int} {o i : Int} (hn : set.Nodup) (h : o ∈ set) : (exch set o i).length = set.length := by
  unfold exch
  rw [List.length_append]
  have := wout_one_len hn h
  simpa using this
/-- Between two exchanges. -/
structure ExI (c : Ck) (U s0 : List Int) (n : Nat) (lim : Int) (f : Nat) (set : List Int) : Prop where
  fair : Fair c U s0 set
  len : set.length = n
  fuel : s0.length + 1 ≤ (wout s0 set).length + f
  eq : choiceU c U s0 n lim = exTo c U lim f (chgN s0 set) set
theorem ExI.start {c : Ck} {U s0 : List Int} {n : Nat} {lim : Int} (hU : U.Nodup) (h0 : s0.Nodup) (hs : ∀ x ∈ s0, x ∈ U) (hn : n ≤ U.length) : ExI c U s0 n lim (s0.length + 1) (firstSet c U s0 n) := by
  obtain ⟨h1, h2, _⟩ := first_spec (c := c) hU h0 hs hn
  exact ⟨h1, h2, by omega, rfl⟩
theorem wout_le (l o : List Int) : (wout l o).length ≤ l.length := List.length_filter_le ..
theorem goB_iff {c : Ck} {U set : List Int} {lim ch : Int} : goB c U lim ch set = true ↔ set ≠ [] ∧ wout U set ≠ [] ∧ ch + 2 ≤ lim ∧ strictB (c.ch (bestL c (wout U set))) (c.ch (worstL c set)) c.cur = true := by
  unfold goB
  simp only [Bool.and_eq_true, Bool.not_eq_true', beq_eq_false_iff_ne, decide_eq_true_eq, ne_eq, and_assoc]
theorem ExI.step {c : Ck} {U s0 set : List Int} {n : Nat} {lim : Int} {f : Nat} (h : ExI c U s0 n lim f set) (h0 : s0.Nodup) (hs : ∀ x ∈ s0, x ∈ U) (hg : goB c U lim (chgN s0 set) set = true) :
    ∃ g, f = g + 1 ∧ ExI c U s0 n lim g (exch set (worstL c set) (bestL c (wout U set))) ∧ chgN s0 (exch set (worstL c set) (bestL c (wout U set))) = chgN s0 set + 2 := by
  obtain ⟨g1, g2, g3, g4⟩ := goB_iff.1 hg
  obtain ⟨a1, a2, a3⟩ := h.fair.exch hs g1 g2 g4
  have hm := (worstL_spec (c := c) g1).1
  have hb := mem_wout.1 (bestL_spec (c := c) g2).1
  have hc := chg_exch (set := set) h0 hm a2 a1
  have hwl := wout_le s0 set
  have hfu := h.fuel
  obtain ⟨g, rfl⟩ : ∃ g, f = g + 1 := ⟨f - 1, by omega⟩
  have e := h.eq
  unfold exTo at e
  rw [if_pos hg] at e
  have hwo : (wout s0 (exch set (worstL c set) (bestL c (wout U set)))).length = (wout s0 set).length + 1 := by
    have ha : wout s0 set = (wout s0 (exch set (worstL c set) (bestL c (wout U set)))).filter fun x => !(x == worstL c set) := by
      generalize worstL c set = o at *
      generalize bestL c (wout U set) = i at *
      unfold wout
      rw [List.filter_filter]
      refine List.filter_congr fun x hx => ?_
      have hxi : x ≠ i := fun e => a1 (e ▸ hx)
      by_cases hq : x = o
      · subst hq; simp [hm]
      · by_cases hm2 : x ∈ set
        · have : x ∈ exch set o i := mem_exch.2 (.inl ⟨hm2, hq⟩)
          simp [hm2, this]
        · have : x ∉ exch set o i := fun e => by rcases mem_exch.1 e with h | h; exact hm2 h.1; exact hxi h
          simp [hm2, this, hq]
    rw [ha]
    exact (len_out (wout_nodup h0) (mem_wout.2 ⟨a2, fun e => by rcases mem_exch.1 e with h | h; exact h.2 rfl; exact hb.2 (h ▸ hm)⟩)).symm
  refine ⟨g, rfl, ⟨a3, by rw [exch_len h.fair.nd hm]; exact h.len, by omega, ?_⟩, hc⟩
  rw [e, hc]
  rfl
theorem ExI.stop {c : Ck} {U s0 set : List Int} {n : Nat} {lim : Int} {f : Nat} (h : ExI c U s0 n lim f set) (hg : goB c U lim (chgN s0 set) set = false) : choiceU c U s0 n lim = set := by
  have hwl := wout_le s0 set
  have hfu := h.fuel
  obtain ⟨g, rfl⟩ : ∃ g, f = g + 1 := ⟨f - 1, by omega⟩
  have e := h.eq
  unfold exTo at e
  rw [hg] at e
  exact e
/-- What a choice is. -/
theorem choice_spec {c : Ck} {U s0 : List Int} {n : Nat} {lim : Int} (hU : U.Nodup) (h0 : s0.Nodup) (hs : ∀ x ∈ s0, x ∈ U) (hn : n ≤ U.length) :
    ∃ f, ExI c U s0 n lim f (choiceU c U s0 n lim) ∧ goB c U lim (chgN s0 (choiceU c U s0 n lim)) (choiceU c U s0 n lim) = false := by
  have key : ∀ (f : Nat) (set : List Int), ExI c U s0 n lim f set → ∃ g, ExI c U s0 n lim g (choiceU c U s0 n lim) ∧ goB c U lim (chgN s0 (choiceU c U s0 n lim)) (choiceU c U s0 n lim) = false := by
    intro f
    induction f with
    | zero =>
      intro set h
      have := wout_le s0 set
      have := h.fuel
      omega
    | succ f ih =>
      intro set h
      cases hg : goB c U lim (chgN s0 set) set with
      | true =>
        obtain ⟨g, hfg, h2, _⟩ := h.step h0 hs hg
        cases hfg
        exact ih _ h2
      | false =>
        have e := h.stop hg
        rw [e]
        exact ⟨_, h, hg⟩
  exact key _ _ (ExI.start hU h0 hs hn)
end Go.Proofs.YtafnebfchhmgcaaGreat
/- Arms in plain words: checks, the usable modules, sums. -/
namespace Go.Proofs.YtafnebfchhmgcaaGreat
open Go.RowKit Go.Sort Go.Shelf
set_option linter.unusedSimpArgs false
set_option linter.unusedVariables false
def or0 (a b : Int) : Int := if a = 0 then b else a
theorem or0_zero {a b : Int} (h : or0 a b = 0) : a = 0 ∧ b = 0 := by
  unfold or0 at h
  split at h
  · exact ⟨by assumption, h⟩
  · exact absurd h (by assumption)
theorem or0_of {a b : Int} (h1 : a = 0) (h2 : b = 0) : or0 a b = 0 := by unfold or0; rw [if_pos h1, h2]
theorem firstE_cons (a : Int) (r : List Int) : firstE (a :: r) = or0 a (firstE r) := by
  unfold firstE or0
  by_cases h : a = 0
  · subst h; simp
  · simp [h]
theorem firstE_nil : firstE [] = 0 := rfl
theorem whenE_zero {b : Bool} {n : Int} (hn : n ≠ 0) (h : whenE b n = 0) : b = false := by
  cases b with
  | false => rfl
  | true => exact absurd h hn
theorem ckR_zero {n lo hi : Int} (h : ckR n lo hi = 0) : lo ≤ n ∧ n ≤ hi := by
  rcases Int.lt_or_le n lo with h1 | h1
  · rw [ckR_no (.inl h1)] at h; cases h
  · rcases Int.lt_or_le hi n with h2 | h2
    · rw [ckR_no (.inr h2)] at h; cases h
    · exact ⟨h1, h2⟩
/-- A module of an arm, those before it, and the band. -/
def twiceB (pre : List Md) (x : Md) : Bool := pre.any fun o => o.n.toList == x.n.toList
def mdE (pre : List Md) (lo hi : Int) (x : Md) : Int :=
  firstE [nameE x.n, whenE (twiceB pre x) 9, ckR x.q 0 16384, whenE (x.on && x.by_) 24, whenE (!x.by_ && !inB lo hi x.q) 30]
def mdsGo (lo hi : Int) : List Md → List Md → Int
  | _, [] => 0
  | pre, x :: r => or0 (mdE pre lo hi x) (mdsGo lo hi (pre ++ [x]) r)
def headE (a : Ar) : Int :=
  firstE [whenE ((a.m.length : Int) == 0) 12, whenE (decide ((16 : Int) < a.m.length)) 5, ckR a.lo 0 16384, ckR a.hi 0 16384, whenE (decide (a.hi < a.lo)) 11, ckR a.cur 0 1000, ckR a.lim 0 16]
def armE (a : Ar) : Int := or0 (headE a) (mdsGo a.lo a.hi [] a.m)
/-- An arm without an error. -/
structure Fit (a : Ar) : Prop where
  n0 : 0 < a.m.length
  n16 : a.m.length ≤ 16
  lo : 0 ≤ a.lo ∧ a.lo ≤ 16384
  hi : 0 ≤ a.hi ∧ a.hi ≤ 16384
  le : a.lo ≤ a.hi
  cur : 0 ≤ a.cur ∧ a.cur ≤ 1000
  lim : 0 ≤ a.lim ∧ a.lim ≤ 16
  q : ∀ x ∈ a.m, 0 ≤ x.q ∧ x.q ≤ 16384
  cf : ∀ x ∈ a.m, x.on = true → x.by_ = false
  band : ∀ x ∈ a.m, x.by_ = false → a.lo ≤ x.q ∧ x.q ≤ a.hi
  nm : ∀ x ∈ a.m, nameB x.n = true
theorem mdE_zero {pre : List Md} {lo hi : Int} {x : Md} (h : mdE pre lo hi x = 0) : nameB x.n = true ∧ twiceB pre x = false ∧ (0 ≤ x.q ∧ x.q ≤ 16384) ∧ (x.on = true → x.by_ = false) ∧ (x.by_ = false → lo ≤ x.q ∧ x.q ≤ hi) := by
  unfold mdE at h
  rw [firstE_cons, firstE_cons, firstE_cons, firstE_cons, firstE_cons] at h
  obtain ⟨h1, h⟩ := or0_zero h
  obtain ⟨h2, h⟩ := or0_zero h
  obtain ⟨h3, h⟩ := or0_zero h
  obtain ⟨h4, h⟩ := or0_zero h
  obtain ⟨h5, _⟩ := or0_zero h
  unfold nameE at h1
  have g1 := whenE_zero (by decide) h1
  have g2 := whenE_zero (by decide) h2
  have g4 := whenE_zero (by decide) h4
  have g5 := whenE_zero (by decide) h5
  refine ⟨by simpa using g1, g2, ckR_zero h3, fun ho => ?_, fun hb => ?_⟩
  · rw [ho] at g4
    simpa using g4
  · rw [hb] at g5
    unfold inB at g5
    simpa using g5
theorem mdsGo_zero {lo hi : Int} : ∀ {l pre : List Md}, mdsGo lo hi pre l = 0 → ∀ x ∈ l, nameB x.n = true ∧ (0 ≤ x.q ∧ x.q ≤ 16384) ∧ (x.on = true → x.by_ = false) ∧ (x.by_ = false → lo ≤ x.q ∧ x.q ≤ hi)
  | [], _, _, x, hx => by cases hx
  | z :: r, pre, h, x, hx => by
    have h' : or0 (mdE pre lo hi z) (mdsGo lo hi (pre ++ [z]) r) = 0 := h
    obtain ⟨h1, h2⟩ := or0_zero h'
    rcases List.mem_cons.1 hx with rfl | hx
    · obtain ⟨g1, _, g3, g4, g5⟩ := mdE_zero h1
      exact ⟨g1, g3, g4, g5⟩
    · exact mdsGo_zero h2 x hx
theorem fit_of {a : Ar} (h : armE a = 0) : Fit a := by
  unfold armE at h
  obtain ⟨h0, hm⟩ := or0_zero h
  unfold headE at h0
  rw [firstE_cons, firstE_cons, firstE_cons, firstE_cons, firstE_cons, firstE_cons, firstE_cons] at h0
  obtain ⟨h1, h0⟩ := or0_zero h0
  obtain ⟨h2, h0⟩ := or0_zero h0
  obtain ⟨h3, h0⟩ := or0_zero h0
  obtain ⟨h4, h0⟩ := or0_zero h0
  obtain ⟨h5, h0⟩ := or0_zero h0
  obtain ⟨h6, h0⟩ := or0_zero h0
  obtain ⟨h7, _⟩ := or0_zero h0
  have g1 := whenE_zero (by decide) h1
  have g2 := whenE_zero (by decide) h2
  have g5 := whenE_zero (by decide) h5
  have hg := mdsGo_zero hm
  refine ⟨?_, ?_, ckR_zero h3, ckR_zero h4, ?_, ckR_zero h6, ckR_zero h7, fun x hx => (hg x hx).2.1, fun x hx => (hg x hx).2.2.1, fun x hx => (hg x hx).2.2.2, fun x hx => (hg x hx).1⟩
  · have : ¬ ((a.m.length : Int) = 0) := by simpa using g1
    omega
  · have : ¬ ((16 : Int) < a.m.length) := by simpa using g2
    omega
  · have : ¬ (a.hi < a.lo) := by simpa using g5
    omega
/-- The indices of the modules for which a condition holds. -/
def idxs (p : Md → Bool) : Nat → List Md → List Int
  | _, [] => []
  | k, x :: r => if p x then (k : Int) :: idxs p (k + 1) r else idxs p (k + 1) r
theorem idxs_snoc (p : Md → Bool) (x : Md) : ∀ (l : List Md) (k : Nat), idxs p k (l ++ [x]) = idxs p k l ++ (if p x then [((k + l.length : Nat) : Int)] else [])
  | [], k => by
    show (if p x then (k : Int) :: [] else []) = _
    cases p x <;> simp [idxs]
  | z :: r, k => by
    have ih := idxs_snoc p x r (k + 1)
    show (if p z then (k : Int) :: idxs p (k + 1) (r ++ [x]) else idxs p (k + 1) (r ++ [x])) = (if p z then (k : Int) :: idxs p (k + 1) r else idxs p (k + 1) r) ++ _
    rw [ih, List.length_cons, show k + 1 + r.length = k + (r.length + 1) by omega]
    cases p z <;> simp
theorem idxs_take (p : Md → Bool) {l : List Md} {k : Nat} (hk : k < l.length) : idxs p 0 (l.take (k + 1)) = idxs p 0 (l.take k) ++ (if p l[k] then [(k : Int)] else []) := by
  rw [List.take_succ_eq_append_getElem hk, idxs_snoc, Nat.zero_add, List.length_take, Nat.min_eq_left (Nat.le_of_lt hk)]
theorem idxs_len (p : Md → Bool) : ∀ (l : List Md) (k : Nat), (idxs p k l).length ≤ l.length
  | [], _ => Nat.le_refl _
  | z :: r, k => by
    have ih := idxs_len p r (k + 1)
    unfold idxs
    split <;> simp <;> omega
theorem mem_idxs {p : Md → Bool} : ∀ {l : List Md} {k : Nat} {i : Int}, i ∈ idxs p k l ↔ ∃ j, ∃ h : j < l.length, i = ((k + j : Nat) : Int) ∧ p l[j] = true
  | [], k, i => by
    constructor
    · intro h; cases h
    · rintro ⟨j, h, _⟩; cases h
  | x :: r, k, i => by
    have ih := mem_idxs (p := p) (l := r) (k := k + 1) (i := i)
    unfold idxs
    constructor
    · intro h
      split at h
      · rename_i hp
        rcases List.mem_cons.1 h with rfl | h
        · exact ⟨0, by simp, by simp, hp⟩
        · obtain ⟨j, hj, e, hq⟩ := ih.1 h
          exact ⟨j + 1, by simpa using hj, by rw [e]; omega, hq⟩
      · obtain ⟨j, hj, e, hq⟩ := ih.1 h
        exact ⟨j + 1, by simpa using hj, by rw [e]; omega, hq⟩
    · rintro ⟨j, hj, e, hq⟩
      cases j with
      | zero =>
        have hq' : p x = true := hq
        rw [if_pos hq', e]
        simp
      | succ j =>
        have : i ∈ idxs p (k + 1) r := ih.2 ⟨j, by simpa using hj, by rw [e]; omega, hq⟩
        split
        · exact List.mem_cons_of_mem _ this
        · exact this
theorem idxs_sorted (p : Md → Bool) : ∀ (l : List Md) (k : Nat), (idxs p k l).Pairwise (· < ·)
  | [], _ => List.Pairwise.nil
  | x :: r, k => by
    have ih := idxs_sorted p r (k + 1)
    unfold idxs
    split
    · refine List.pairwise_cons.2 ⟨fun i hi => ?_, ih⟩
      obtain ⟨j, _, e, _⟩ := mem_idxs.1 hi
      omega
    · exact ih
theorem idxs_nodup (p : Md → Bool) (l : List Md) (k : Nat) : (idxs p k l).Nodup := (idxs_sorted p l k).imp fun h e => by omega
def usB (x : Md) : Bool := !x.by_
def usL (a : Ar) : List Int := idxs usB 0 a.m
def onL (a : Ar) : List Int := idxs (fun x => x.on) 0 a.m
theorem idxs_congr {p q : Md → Bool} : ∀ {l : List Md} {k : Nat}, (∀ x ∈ l, p x = q x) → idxs p k l = idxs q k l
  | [], _, _ => rfl
  | x :: r, k, h => by
    unfold idxs
    rw [h x (List.mem_cons_self ..), idxs_congr fun z hz => h z (List.mem_cons_of_mem _ hz)]
theorem onL_us {a : Ar} (h : Fit a) : idxs (fun x => usB x && x.on) 0 a.m = onL a := idxs_congr fun x hx => by
  unfold usB
  cases ho : x.on with
  | false => simp
  | true => simp [h.cf x hx ho]
/-- What a choice looks at. -/
def mdAt (a : Ar) (i : Int) : Option Md := a.m[i.toNat]?
def ckA (a : Ar) (cur : Int) : Ck := ⟨fun i => ((mdAt a i).map Md.q).getD 0, fun i => ((mdAt a i).map Md.on).getD false, cur⟩
def sumI (f : Md → Int) (l : List Md) : Int := (l.map f).sum
theorem sumI_take (f : Md → Int) {l : List Md} {k : Nat} (hk : k < l.length) : sumI f (l.take (k + 1)) = sumI f (l.take k) + f l[k] := by
  unfold sumI
  rw [List.take_succ_eq_append_getElem hk, List.map_append, List.sum_append]
  simp
def voltL (a : Ar) : Int := sumI (fun x => if x.on then x.q else 0) a.m
def enerL (a : Ar) : Int := sumI (fun x => if x.by_ then 0 else x.q * x.q) a.m
end Go.Proofs.YtafnebfchhmgcaaGreat
/- Arms in plain words: orders, choices, steps, runs. -/
namespace Go.Proofs.YtafnebfchhmgcaaGreat
open Go.RowKit Go.Sort Go.Shelf
set_option linter.unusedSimpArgs false
set_option linter.unusedVariables false
theorem hasI_iff (zs : List Int) (z : Int) : hasI zs z = true ↔ z ∈ zs := by simp [hasI]

def insI (z : Int) : List Int → List Int
  | [] => [z]
  | x :: r => if z ≤ x then z :: x :: r else x :: insI z r
def sortI (l : List Int) : List Int := l.foldr insI []
def rng (n : Nat) : List Int := (List.range n).map fun i : Nat => (i : Int)
theorem mem_rng {n : Nat} {z : Int} : z ∈ rng n ↔ 0 ≤ z ∧ z < n := by
  simp only [rng, List.mem_map, List.mem_range]
  constructor
  · rintro ⟨i, hi, rfl⟩; omega
  · rintro ⟨h0, h1⟩; exact ⟨z.toNat, by omega, by omega⟩
theorem rng_len (n : Nat) : (rng n).length = n := by simp [rng]
theorem rng_succ (n : Nat) : rng (n + 1) = rng n ++ [(n : Int)] := by simp [rng, List.range_succ]
theorem rng_sorted (n : Nat) : (rng n).Pairwise (· < ·) := by
  unfold rng
  rw [List.pairwise_map]
  exact List.pairwise_lt_range.imp (fun h => by omega)
theorem mem_insI {z x : Int} {l : List Int} : z ∈ insI x l ↔ z = x ∨ z ∈ l := by
  induction l with
  | nil => simp [insI]
  | cons a r ih =>
    unfold insI
    split
    · simp
    · simp only [List.mem_cons, ih]
      constructor
      · rintro (h | h | h) <;> simp [h]
      · rintro (h | h | h) <;> simp [h]
theorem insI_sorted {x : Int} {l : List Int} (h : l.Pairwise (· < ·)) (hx : x ∉ l) : (insI x l).Pairwise (· < ·) := by
  induction l with
  | nil => simp [insI]
  | cons a r ih =>
    rw [List.pairwise_cons] at h
    simp only [List.mem_cons, not_or] at hx
    unfold insI
    split
    · rw [List.pairwise_cons, List.pairwise_cons]
      refine ⟨fun b hb => ?_, h.1, h.2⟩
      rcases List.mem_cons.1 hb with rfl | hb
      · have := hx.1; omega
      · have := h.1 b hb; omega
    · rw [List.pairwise_cons]
      refine ⟨fun b hb => ?_, ih h.2 hx.2⟩
      rcases mem_insI.1 hb with rfl | hb
      · omega
      · exact h.1 b hb
theorem mem_sortI {z : Int} {l : List Int} : z ∈ sortI l ↔ z ∈ l := by
  induction l with
  | nil => simp [sortI]
  | cons a r ih =>
    show z ∈ insI a (sortI r) ↔ _
    rw [mem_insI, ih, List.mem_cons]
theorem sortI_sorted {l : List Int} (h : l.Nodup) : (sortI l).Pairwise (· < ·) := by
  induction l with
  | nil => simp [sortI]
  | cons a r ih =>
    rw [List.nodup_cons] at h
    exact insI_sorted (ih h.2) (fun hm => h.1 (mem_sortI.1 hm))
theorem sorted_ext {l m : List Int} (hl : l.Pairwise (· < ·)) (hm : m.Pairwise (· < ·)) (h : ∀ z, z ∈ l ↔ z ∈ m) : l = m := by
  induction l generalizing m with
  | nil => cases m with
    | nil => rfl
    | cons b t => exact absurd ((h b).2 List.mem_cons_self) (by simp)
  | cons a r ih =>
    cases m with
    | nil => exact absurd ((h a).1 List.mem_cons_self) (by simp)
    | cons b t =>
      rw [List.pairwise_cons] at hl hm
      have hab : a = b := by
        rcases List.mem_cons.1 ((h a).1 List.mem_cons_self) with e | e
        · exact e
        · rcases List.mem_cons.1 ((h b).2 List.mem_cons_self) with e' | e'
          · exact e'.symm
          · have := hm.1 a e; have := hl.1 b e'; omega
      subst hab
      rw [ih hl.2 hm.2]
      intro z
      constructor
      · intro hz
        have h1 := hl.1 z hz
        rcases List.mem_cons.1 ((h z).1 (List.mem_cons_of_mem _ hz)) with e | e
        · omega
        · exact e
      · intro hz
        have h1 := hm.1 z hz
        rcases List.mem_cons.1 ((h z).2 (List.mem_cons_of_mem _ hz)) with e | e
        · omega
        · exact e
theorem insI_perm (z : Int) : ∀ l : List Int, (insI z l).Perm (z :: l)
  | [] => .refl _
  | x :: r => by
    unfold insI
    split
    · exact .refl _
    · exact (List.Perm.cons x (insI_perm z r)).trans (.swap ..)
theorem sortI_perm : ∀ l : List Int, (sortI l).Perm l
  | [] => .refl _
  | x :: r => (insI_perm x (sortI r)).trans (.cons x (sortI_perm r))
theorem insI_le {z : Int} : ∀ {l : List Int}, l.Pairwise (· ≤ ·) → (insI z l).Pairwise (· ≤ ·)
  | [], _ => by simp [insI]
  | x :: r, h => by
    rw [List.pairwise_cons] at h
    unfold insI
    split
    · rename_i hz
      rw [List.pairwise_cons, List.pairwise_cons]
      refine ⟨fun b hb => ?_, h.1, h.2⟩
      rcases List.mem_cons.1 hb with rfl | hb
      · exact hz
      · have := h.1 b hb; omega
    · rw [List.pairwise_cons]
      refine ⟨fun b hb => ?_, insI_le h.2⟩
      rcases mem_insI.1 hb with rfl | hb
      · omega
      · exact h.1 b hb
theorem sortI_le : ∀ l : List Int, (sortI l).Pairwise (· ≤ ·)
  | [] => .nil
  | _ :: r => insI_le (sortI_le r)
theorem merge_sortI (l : List Int) : (l.mergeSort fun x y => decide (x ≤ y)) = sortI l := by
  refine List.Perm.eq_of_pairwise (le := (· ≤ ·)) (fun a b _ _ h h' => by omega) ?_ (sortI_le l) ((List.mergeSort_perm l _).trans (sortI_perm l).symm)
  have h := List.pairwise_mergeSort (le := fun x y : Int => decide (x ≤ y)) (fun a b c h1 h2 => by simp at h1 h2 ⊢; omega) (fun a b => by simp; omega) l
  exact h.imp (fun h => by simpa using h)
/-- The error of an order; the error with which it is refused. -/
def orderE (o : Od) : Int := firstE [ckR o.n 0 16, ckR o.c (-1000) 1000]
def refE (a : Ar) (o : Od) : Int :=
  firstE [whenE (decide (a.cur < absI o.c)) 31, whenE (decide (((usL a).length : Int) < o.n)) 18, whenE (decide (a.lim < absI (o.n - (onL a).length))) 21]
/-- The choice: as a set in the order in which it came about; in order. -/
def setU (a : Ar) (o : Od) : List Int := choiceU (ckA a o.c) (usL a) (onL a) o.n.toNat a.lim
def choiceA (a : Ar) (o : Od) : List Int := sortI (setU a o)
def stepMs (set : List Int) (c : Int) : Nat → List Md → List Md
  | _, [] => []
  | k, x :: r => ⟨x.n, if hasI set k then x.q + c else x.q, hasI set k, x.by_⟩ :: stepMs set c (k + 1) r
def nilA : Ar := ⟨[], 0, 0, 0, 0⟩
def stepA (a : Ar) (o : Od) : Ar := ⟨stepMs (choiceA a o) o.c 0 a.m, a.lo, a.hi, a.cur, a.lim⟩
def outB (lo hi : Int) (x : Md) : Bool := x.on && !inB lo hi x.q
def stepE (a : Ar) (o : Od) : Int := or0 (refE a o) (whenE ((stepMs (choiceA a o) o.c 0 a.m).any (outB a.lo a.hi)) 30)
def resA (e : Int) (a : Ar) : Ar := if e = 0 then a else nilA
/-- The arm after orders, the index of the first one that is refused, the error. -/
def runGo : Nat → Ar → List Od → Ar × Nat × Int
  | _, a, [] => (a, 0, 0)
  | k, a, o :: r => if stepE a o = 0 then runGo (k + 1) (stepA a o) r else (nilA, k, stepE a o)
theorem stepMs_len (set : List Int) (c : Int) : ∀ (l : List Md) (k : Nat), (stepMs set c k l).length = l.length
  | [], _ => rfl
  | _ :: r, k => congrArg (· + 1) (stepMs_len set c r (k + 1))
theorem stepMs_get (set : List Int) (c : Int) : ∀ (l : List Md) (k i : Nat), (stepMs set c k l)[i]? = (l[i]?).map fun x => ⟨x.n, if hasI set ((k + i : Nat) : Int) then x.q + c else x.q, hasI set ((k + i : Nat) : Int), x.by_⟩
  | [], _, _ => rfl
  | x :: r, k, 0 => rfl
  | x :: r, k, i + 1 => by
    show (stepMs set c (k + 1) r)[i]? = _
    rw [stepMs_get set c r (k + 1) i, show k + 1 + i = k + (i + 1) by omega]
    rfl
theorem stepMs_snoc (set : List Int) (c : Int) (x : Md) : ∀ (l : List Md) (k : Nat), stepMs set c k (l ++ [x]) = stepMs set c k l ++ [⟨x.n, if hasI set ((k + l.length : Nat) : Int) then x.q + c else x.q, hasI set ((k + l.length : Nat) : Int), x.by_⟩]
  | [], k => rfl
  | z :: r, k => by
    have ih := stepMs_snoc set c x r (k + 1)
    show _ :: stepMs set c (k + 1) (r ++ [x]) = (_ :: stepMs set c (k + 1) r) ++ _
    rw [ih, List.length_cons, show k + 1 + r.length = k + (r.length + 1) by omega]
    rfl
/-- Where an order is not refused there are enough modules. -/
theorem ref_zero {a : Ar} {o : Od} (h : refE a o = 0) : absI o.c ≤ a.cur ∧ o.n ≤ (usL a).length ∧ absI (o.n - (onL a).length) ≤ a.lim := by
  unfold refE at h
  rw [firstE_cons, firstE_cons, firstE_cons] at h
  obtain ⟨h1, h⟩ := or0_zero h
  obtain ⟨h2, h⟩ := or0_zero h
  obtain ⟨h3, _⟩ := or0_zero h
  have g1 := of_decide_eq_false (whenE_zero (by decide) h1)
  have g2 := of_decide_eq_false (whenE_zero (by decide) h2)
  have g3 := of_decide_eq_false (whenE_zero (by decide) h3)
  exact ⟨by omega, by omega, by omega⟩
theorem order_zero {o : Od} (h : orderE o = 0) : (0 ≤ o.n ∧ o.n ≤ 16) ∧ -1000 ≤ o.c ∧ o.c ≤ 1000 := by
  unfold orderE at h
  rw [firstE_cons, firstE_cons] at h
  obtain ⟨h1, h⟩ := or0_zero h
  obtain ⟨h2, _⟩ := or0_zero h
  exact ⟨ckR_zero h1, ckR_zero h2⟩
theorem on_sub {a : Ar} (h : Fit a) : ∀ i ∈ onL a, i ∈ usL a := fun i hi => by
  obtain ⟨j, hj, e, hq⟩ := mem_idxs.1 hi
  refine mem_idxs.2 ⟨j, hj, e, ?_⟩
  unfold usB
  rw [h.cf _ (List.getElem_mem hj) hq]
  rfl
theorem us_in {a : Ar} (h : Fit a) : ∀ i ∈ usL a, 0 ≤ i ∧ i < 16 := fun i hi => by
  obtain ⟨j, hj, e, _⟩ := mem_idxs.1 hi
  have := h.n16
  omega
/-- What a choice is: fair, as many as ordered, and no exchange is left. -/
theorem setU_spec {a : Ar} {o : Od} (hF : Fit a) (hn : 0 ≤ o.n) (hr : refE a o = 0) :
    Fair (ckA a o.c) (usL a) (onL a) (setU a o) ∧ (setU a o).length = o.n.toNat ∧ goB (ckA a o.c) (usL a) a.lim (chgN (onL a) (setU a o)) (setU a o) = false := by
  obtain ⟨_, h2, _⟩ := ref_zero hr
  obtain ⟨f, h, hg⟩ := choice_spec (c := ckA a o.c) (lim := a.lim) (n := o.n.toNat) (idxs_nodup _ _ _) (idxs_nodup _ _ _) (on_sub hF) (show o.n.toNat ≤ (usL a).length by omega)
  exact ⟨h.fair, h.len, hg⟩
/-- A set in order: by sorting, or by asking each index. -/
theorem sorted16 {set : List Int} (hn : set.Nodup) (hs : ∀ i ∈ set, 0 ≤ i ∧ i < 16) : (rng 16).filter (hasI set) = sortI set := by
  refine sorted_ext ((rng_sorted 16).filter _) (sortI_sorted hn) fun z => ?_
  rw [List.mem_filter, mem_sortI, hasI_iff, mem_rng]
  exact ⟨fun h => h.2, fun h => ⟨hs z h, h⟩⟩
end Go.Proofs.YtafnebfchhmgcaaGreat
/- Arms in plain words: spreads and bounds. -/
namespace Go.Proofs.YtafnebfchhmgcaaGreat
open Go.RowKit Go.Sort Go.Shelf
set_option linter.unusedSimpArgs false
set_option linter.unusedVariables false
def maxGo : Int → List Int → Int
  | m, [] => m
  | m, x :: r => maxGo (max m x) r
def minGo : Int → List Int → Int
  | m, [] => m
  | m, x :: r => minGo (min m x) r
theorem maxGo_spec : ∀ (r : List Int) (m : Int), maxGo m r ∈ m :: r ∧ ∀ z ∈ m :: r, z ≤ maxGo m r
  | [], m => ⟨List.mem_cons_self .., fun z hz => by rw [List.mem_singleton.1 hz]; exact Int.le_refl _⟩
  | x :: r, m => by
    obtain ⟨h1, h2⟩ := maxGo_spec r (max m x)
    have e : maxGo m (x :: r) = maxGo (max m x) r := rfl
    rw [e]
    refine ⟨?_, fun z hz => ?_⟩
    · rcases List.mem_cons.1 h1 with h | h
      · rw [h]
        rcases Int.le_total m x with q | q
        · rw [Int.max_eq_right q]; simp
        · rw [Int.max_eq_left q]; simp
      · exact List.mem_cons_of_mem _ (List.mem_cons_of_mem _ h)
    · have h3 := h2 (max m x) (List.mem_cons_self ..)
      rcases List.mem_cons.1 hz with rfl | hz
      · omega
      · rcases List.mem_cons.1 hz with rfl | hz
        · omega
        · exact h2 z (List.mem_cons_of_mem _ hz)
theorem minGo_spec : ∀ (r : List Int) (m : Int), minGo m r ∈ m :: r ∧ ∀ z ∈ m :: r, minGo m r ≤ z
  | [], m => ⟨List.mem_cons_self .., fun z hz => by rw [List.mem_singleton.1 hz]; exact Int.le_refl _⟩
  | x :: r, m => by
    obtain ⟨h1, h2⟩ := minGo_spec r (min m x)
    have e : minGo m (x :: r) = minGo (min m x) r := rfl
    rw [e]
    refine ⟨?_, fun z hz => ?_⟩
    · rcases List.mem_cons.1 h1 with h | h
      · rw [h]
        rcases Int.le_total m x with q | q
        · rw [Int.min_eq_left q]; simp
        · rw [Int.min_eq_right q]; simp
      · exact List.mem_cons_of_mem _ (List.mem_cons_of_mem _ h)
    · have h3 := h2 (min m x) (List.mem_cons_self ..)
      rcases List.mem_cons.1 hz with rfl | hz
      · omega
      · rcases List.mem_cons.1 hz with rfl | hz
        · omega
        · exact h2 z (List.mem_cons_of_mem _ hz)
/-- The charges of the usable modules. -/
def chsL (l : List Md) : List Int := (l.filter usB).map Md.q
theorem chsL_take {l : List Md} {k : Nat} (hk : k < l.length) : chsL (l.take (k + 1)) = chsL (l.take k) ++ (if usB l[k] then [l[k].q] else []) := by
  unfold chsL
  rw [List.take_succ_eq_append_getElem hk, List.filter_append, List.map_append]
  congr 1
  cases h : usB l[k] <;> simp [h]
def spreadC : List Int → Int
  | [] => 0
  | x :: r => maxGo x r - minGo x r
def spreadL (a : Ar) : Int := spreadC (chsL a.m)
def boundL (a : Ar) (o : Od) : Int := if (a.m.length : Int) ≤ a.lim then max (spreadL a) (absI o.c) else spreadL a + absI o.c
theorem idxs_map (p : Md → Bool) (f : Md → Int) (d : Int) : ∀ (l pre : List Md), (idxs p pre.length l).map (fun i => (((pre ++ l)[i.toNat]?).map f).getD d) = (l.filter p).map f
  | [], _ => rfl
  | x :: r, pre => by
    have ih := idxs_map p f d r (pre ++ [x])
    rw [List.length_append, List.append_assoc] at ih
    have hx : ((((pre ++ x :: r)[((pre.length : Nat) : Int).toNat]?).map f).getD d) = f x := by
      rw [Int.toNat_natCast, List.getElem?_append_right (Nat.le_refl _), Nat.sub_self]
      rfl
    unfold idxs
    rw [List.filter_cons]
    split
    · rw [List.map_cons, hx, List.map_cons]
      exact congrArg _ ih
    · exact ih
theorem chs_us (a : Ar) (c : Int) : (usL a).map (ckA a c).ch = chsL a.m := idxs_map usB Md.q 0 a.m []
theorem us_nil (a : Ar) : usL a = [] ↔ chsL a.m = [] := by
  rw [← chs_us a 0, List.map_eq_nil_iff]
/-- The spread by the worst and the best module. -/
theorem spread_best {a : Ar} (h : usL a ≠ []) : spreadL a = (ckA a 1).ch (worstL (ckA a 1) (usL a)) - (ckA a 1).ch (bestL (ckA a 1) (usL a)) := by
  have hch := chs_us a 1
  obtain ⟨b1, b2⟩ := bestL_spec (c := ckA a 1) h
  obtain ⟨w1, w2⟩ := worstL_spec (c := ckA a 1) h
  have hk : ∀ i, k1 (ckA a 1) i = (ckA a 1).ch i := fun i => by
    unfold k1
    rw [if_pos (show (0 : Int) ≤ (ckA a 1).cur by show (0 : Int) ≤ 1; decide)]
  have hle : ∀ i k, leB (ckA a 1) i k → (ckA a 1).ch i ≤ (ckA a 1).ch k := fun i k hi => by
    rcases le_cases hi with e | e
    · rw [e]; exact Int.le_refl _
    · have := (bet_iff _ _ _).1 e
      rw [hk, hk] at this
      omega
  unfold spreadL
  cases hc : chsL a.m with
  | nil => exact absurd ((us_nil a).2 hc) h
  | cons x r =>
    show maxGo x r - minGo x r = _
    obtain ⟨m1, m2⟩ := maxGo_spec r x
    obtain ⟨n1, n2⟩ := minGo_spec r x
    rw [hc] at hch
    rw [← hch] at m1 m2 n1 n2
    obtain ⟨i, hi, ei⟩ := List.mem_map.1 m1
    obtain ⟨j, hj, ej⟩ := List.mem_map.1 n1
    have e1 := hle i _ (w2 i hi)
    have e2 := m2 _ (List.mem_map.2 ⟨_, w1, rfl⟩)
    have e3 := hle _ j (b2 j hj)
    have e4 := n2 _ (List.mem_map.2 ⟨_, b1, rfl⟩)
    omega
end Go.Proofs.YtafnebfchhmgcaaGreat
