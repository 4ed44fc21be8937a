/- Islands: what the law PermitIslands says of them; in plain words. -/
import Derived.Test.YtphlojgmfkgeiaaGreatDoorKm
import Derived.Test.YtphlojgmfkgeiaaGreatDoorKi
import Derived.Test.YtphlojgmfkgeiaaGreatDoorKe
namespace Go.Proofs.YtphlojgmfkgeiaaGreatDoor
theorem Rch.trans {nb : Int → List Int} {a b c : Int} (h : Rch nb a b) (k : Rch nb b c) : Rch nb a c :=
  k (fun x => Rch nb a x) h (fun _ _ hc hk => hc.step hk)
theorem Rch.symm {nb : Int → List Int} (hs : ∀ c k, k ∈ nb c → c ∈ nb k) {a b : Int} (h : Rch nb a b) : Rch nb b a :=
  h (fun x => Rch nb x a) .refl (fun c k hc hk => (Rch.refl.step (hs c k hk)).trans hc)
theorem nbrs_symm (l : List Sw) (all : Bool) (c k : Int) (h : k ∈ nbrs l all c) : c ∈ nbrs l all k := by
  obtain ⟨x, hx, hj, h1⟩ := mem_nbrs.1 h
  refine mem_nbrs.2 ⟨x, hx, hj, ?_⟩
  rcases h1 with ⟨h1, h2⟩ | ⟨h1, h2⟩
  · exact .inr ⟨h2, h1⟩
  · exact .inl ⟨h2, h1⟩
section
variable {y : Yd} (hP : Parts y)
include hP
theorem isl_same {all : Bool} {s z : Int} (hs : s ∈ rng y.s.length) (hz : z ∈ y.isl all s) : y.isl all z = y.isl all s := by
  have hzr := isl_in (all := all) hP.ends hs hz
  have h1 := (mem_isl (all := all) hP.ends hs).1 hz
  refine sorted_ext (isl_sorted hP.ends hzr) (isl_sorted hP.ends hs) fun x => ?_
  refine (mem_isl hP.ends hzr).trans (Iff.trans ?_ (mem_isl hP.ends hs).symm)
  exact ⟨fun h => h1.trans h, fun h => (h1.symm (nbrs_symm _ _)).trans h⟩
theorem isl_back {all : Bool} {s z : Int} (hs : s ∈ rng y.s.length) (hz : z ∈ y.isl all s) : s ∈ y.isl all z := by
  rw [isl_same hP hs hz]; exact isl_self hP.ends hs
omit hP in
theorem isls_of {l : List Int} (h : l ∈ islsL y) : ∃ i, i ∈ rng y.s.length ∧ l = y.isl false i ∧ headIs l i = true := by
  unfold islsL at h
  obtain ⟨i, hi, rfl⟩ := List.mem_map.1 h
  obtain ⟨h1, h2⟩ := List.mem_filter.1 hi
  exact ⟨i, h1, rfl, h2⟩
/-- Whatever lies in a list of islands: the list is its island. -/
theorem isls_mem {l : List Int} (h : l ∈ islsL y) {z : Int} (hz : z ∈ l) : z ∈ rng y.s.length ∧ l = y.isl false z := by
  obtain ⟨i, hi, rfl, _⟩ := isls_of h
  exact ⟨isl_in hP.ends hi hz, (isl_same hP hi hz).symm⟩
theorem isls_has {z : Int} (hz : z ∈ rng y.s.length) : y.isl false z ∈ islsL y := by
  have h0 := isl_self (all := false) hP.ends hz
  change z ∈ y.isl false z at h0
  cases e : y.isl false z with
  | nil => rw [e] at h0; cases h0
  | cons a r =>
    have ha : a ∈ y.isl false z := by rw [e]; exact List.mem_cons_self ..
    have har := isl_in (all := false) hP.ends hz ha
    have e2 := isl_same hP hz ha
    unfold islsL
    refine List.mem_map.2 ⟨a, List.mem_filter.2 ⟨har, ?_⟩, by rw [e2, e]⟩
    rw [e2, e]
    simp [headIs]
theorem isls_nodup : (islsL y).Pairwise (fun a b => ∀ z ∈ a, z ∉ b) := by
  unfold islsL
  rw [List.pairwise_map]
  refine List.Pairwise.imp_of_mem ?_ ((rng_sorted y.s.length).filter _)
  intro a b ha hb hab z hza hzb
  obtain ⟨ha1, ha2⟩ := List.mem_filter.1 ha
  obtain ⟨hb1, hb2⟩ := List.mem_filter.1 hb
  have e : y.isl false a = y.isl false b := (isl_same hP ha1 hza).symm.trans (isl_same hP hb1 hzb)
  rw [e] at ha2
  unfold headIs at ha2 hb2
  have h1 := eq_of_beq ha2
  have h2 := eq_of_beq hb2
  rw [h1] at h2
  cases h2
  omega
end
/-- The number of the first list that has i, or -1. -/
def ofAt : List (List Int) → Nat → Int → Int
  | [], _, _ => -1
  | l :: r, k, i => if hasI l i then (k : Int) else ofAt r (k + 1) i
theorem ofAt_lo : ∀ (ls : List (List Int)) (k : Nat) (i : Int), ofAt ls k i = -1 ∨ (k : Int) ≤ ofAt ls k i
  | [], _, _ => .inl rfl
  | l :: r, k, i => by
    unfold ofAt
    split
    · exact .inr (by omega)
    · rcases ofAt_lo r (k + 1) i with h | h
      · exact .inl h
      · exact .inr (by omega)
theorem ofAt_none {ls : List (List Int)} {i : Int} (h : ∀ l ∈ ls, i ∉ l) : ∀ k, ofAt ls k i = -1 := by
  induction ls with
  | nil => intro k; rfl
  | cons l r ih =>
    intro k
    have h1 : hasI l i = false := by
      cases e : hasI l i with
      | false => rfl
      | true => exact absurd ((hasI_iff _ _).1 e) (h l (List.mem_cons_self ..))
    unfold ofAt
    rw [h1]
    simp only [Bool.false_eq_true, if_false]
    exact ih (fun l hl => h l (List.mem_cons_of_mem _ hl)) _
theorem ofAt_same {ls : List (List Int)} {i j : Int} (h : ∀ l ∈ ls, hasI l i = hasI l j) : ∀ k, ofAt ls k i = ofAt ls k j := by
  induction ls with
  | nil => intro k; rfl
  | cons l r ih =>
    intro k
    unfold ofAt
    rw [h l (List.mem_cons_self ..), ih (fun l hl => h l (List.mem_cons_of_mem _ hl))]
theorem ofAt_some : ∀ (ls : List (List Int)) (k : Nat) (i : Int), (∃ l ∈ ls, i ∈ l) → ∃ j, ∃ h : j < ls.length, ofAt ls k i = ((k + j : Nat) : Int) ∧ i ∈ ls[j]
  | [], _, _, ⟨l, hl, _⟩ => by cases hl
  | l :: r, k, i, ⟨m, hm, hi⟩ => by
    cases e : hasI l i with
    | true => exact ⟨0, by simp, by unfold ofAt; rw [e]; rfl, (hasI_iff _ _).1 e⟩
    | false =>
      have hmr : m ∈ r := by
        rcases List.mem_cons.1 hm with rfl | h
        · rw [(hasI_iff _ _).2 hi] at e; cases e
        · exact h
      obtain ⟨j, hj, h1, h2⟩ := ofAt_some r (k + 1) i ⟨m, hmr, hi⟩
      refine ⟨j + 1, by simp; omega, ?_, by simpa using h2⟩
      unfold ofAt
      rw [e]
      simp only [Bool.false_eq_true, if_false]
      rw [h1]
      omega
theorem ofAt_app (ls : List (List Int)) (l : List Int) (k : Nat) (i : Int) : ofAt (ls ++ [l]) k i = if ofAt ls k i = -1 then (if hasI l i then ((k + ls.length : Nat) : Int) else -1) else ofAt ls k i := by
  induction ls generalizing k with
  | nil => simp [ofAt]
  | cons m r ih =>
    simp only [List.cons_append, ofAt]
    split
    · rw [if_neg (by omega)]
    · rw [ih]
      simp only [List.length_cons]
      rw [show k + 1 + r.length = k + (r.length + 1) by omega]
section
variable {y : Yd} (hP : Parts y)
include hP
theorem of_eq {i j : Int} (hi : i ∈ rng y.s.length) (hj : j ∈ rng y.s.length) : (ofAt (islsL y) 0 i == ofAt (islsL y) 0 j) = hasI (y.isl false i) j := by
  cases e : hasI (y.isl false i) j with
  | true =>
    have hm := (hasI_iff _ _).1 e
    rw [ofAt_same (j := j) (fun l hl => ?_)]
    · exact beq_self_eq_true _
    · obtain ⟨h, hh, rfl, _⟩ := isls_of hl
      rw [Bool.eq_iff_iff, hasI_iff, hasI_iff]
      constructor
      · intro h1; rw [isl_same hP hh h1] at hm; exact hm
      · intro h1
        have h2 := isl_back hP hi hm
        rw [isl_same hP hh h1] at h2
        exact h2
  | false =>
    obtain ⟨a, ha, e1, m1⟩ := ofAt_some (islsL y) 0 i ⟨_, isls_has hP hi, isl_self hP.ends hi⟩
    obtain ⟨b, hb, e2, m2⟩ := ofAt_some (islsL y) 0 j ⟨_, isls_has hP hj, isl_self hP.ends hj⟩
    rw [e1, e2]
    refine beq_eq_false_iff_ne.2 fun h => ?_
    have hab : a = b := by omega
    subst hab
    have h1 := (isls_mem hP (List.getElem_mem ha) m1).2
    rw [h1] at m2
    rw [(hasI_iff _ _).2 m2] at e
    cases e
theorem of_ge {i : Int} (hi : i ∈ rng y.s.length) : 0 ≤ ofAt (islsL y) 0 i := by
  obtain ⟨a, ha, e1, m1⟩ := ofAt_some (islsL y) 0 i ⟨_, isls_has hP hi, isl_self hP.ends hi⟩
  omega
/-- While an island is read: what is in it lies in no earlier one. -/
theorem of_new {k j : Nat} (hk : k < (islsL y).length) (hj : j < (islsL y)[k].length) : (islsL y)[k][j] ∈ rng y.s.length ∧ ofAt ((islsL y).take k) 0 (islsL y)[k][j] = -1 ∧ (islsL y)[k][j] ∉ (islsL y)[k].take j := by
  have hm : (islsL y)[k][j] ∈ (islsL y)[k] := List.getElem_mem hj
  refine ⟨(isls_mem hP (List.getElem_mem hk) hm).1, ofAt_none (fun l hl h => ?_) 0, fun h => ?_⟩
  · obtain ⟨a, ha, rfl⟩ := List.getElem_of_mem hl
    rw [List.length_take] at ha
    rw [List.getElem_take] at h
    exact List.pairwise_iff_getElem.1 (isls_nodup hP) a k (by omega) hk (by omega) _ h hm
  · obtain ⟨i, hi, e, _⟩ := isls_of (List.getElem_mem hk)
    have hs := isl_sorted (all := false) hP.ends hi
    change (y.isl false i).Pairwise _ at hs
    rw [← e] at hs
    obtain ⟨a, ha, h2⟩ := List.getElem_of_mem h
    rw [List.length_take] at ha
    rw [List.getElem_take] at h2
    have := List.pairwise_iff_getElem.1 hs a j (by omega) hj (by omega)
    omega
omit hP in
theorem those_has {p : Int → Bool} {n : Nat} {i : Int} (hi : i ∈ rng n) : hasI (those n p) i = p i := by
  rw [Bool.eq_iff_iff, hasI_iff]
  unfold those
  rw [List.mem_filter]
  exact ⟨fun h => h.2, fun h => ⟨hi, h⟩⟩
end
/-- All breakers closed, all earths open, no permits. -/
def opX (x : Sw) : Sw := if x.k.toList == breakerL then { x with c := true } else if x.k.toList == earthL then { x with c := false } else x
def opened (y : Yd) : Yd := ⟨y.s, y.w.map opX, []⟩
theorem opX_same (x : Sw) : (opX x).n = x.n ∧ (opX x).k = x.k ∧ (opX x).a = x.a ∧ (opX x).b = x.b := by
  unfold opX
  split
  · exact ⟨rfl, rfl, rfl, rfl⟩
  · split <;> exact ⟨rfl, rfl, rfl, rfl⟩
theorem opX_joins (x : Sw) : joinsB (opX x) false = joinsB x true := by
  obtain ⟨xn, xk, xa, xb, xc⟩ := x
  unfold opX joinsB
  dsimp only
  cases h1 : (xk.toList == breakerL) with
  | true =>
    have h2 : (xk.toList == earthL) = false := by
      rw [eq_of_beq h1]; rfl
    simp [h2]
  | false =>
    cases h2 : (xk.toList == earthL) with
    | true => simp [h2]
    | false => simp [h1, h2]
theorem opened_nbrs (y : Yd) (c : Int) : nbrs (opened y).w false c = nbrs y.w true c := by
  unfold nbrs opened
  rw [List.flatMap_map]
  congr 1
  funext x
  obtain ⟨_, _, h3, h4⟩ := opX_same x
  unfold nbSw
  rw [opX_joins, h3, h4]
theorem opened_isl (y : Yd) (i : Int) : (opened y).isl false i = y.isl true i := by
  have e : nbrs (opened y).w false = nbrs y.w true := funext (opened_nbrs y)
  show isl y.s.length (opened y).w false i = isl y.s.length y.w true i
  unfold isl islB
  rw [e]
theorem opened_energ (y : Yd) (i : Int) : energB (opened y) i = !sepB y i := by
  unfold energB sepB
  rw [opened_isl, Bool.not_not]
  rfl
theorem opened_earthed (y : Yd) (i : Int) : earthedB (opened y) i = false := by
  unfold earthedB
  rw [List.any_eq_false]
  intro x hx
  obtain ⟨z, _, rfl⟩ := List.mem_map.1 hx
  unfold earthHit
  cases h1 : ((opX z).k.toList == earthL) with
  | false => simp
  | true =>
    have h2 : (z.k.toList == earthL) = true := by rw [← (opX_same z).2.1]; exact h1
    have h3 : (z.k.toList == breakerL) = false := by rw [eq_of_beq h2]; rfl
    have h4 : (opX z).c = false := by unfold opX; rw [h3, h2]; rfl
    simp [h4]
theorem opened_ok {y : Yd} (h : yardE y = 0) : yardE (opened y) = 0 := by
  have h1 := (or0_zero h).1
  unfold partsE at h1
  obtain ⟨h2, h3⟩ := or0_zero h1
  obtain ⟨h4, h5⟩ := or0_zero h3
  obtain ⟨h6, _⟩ := or0_zero h5
  have e1 : swChk (opened y).s.length (opened y).w = swChk y.s.length y.w := by
    show swChk y.s.length (y.w.map opX) = _
    unfold swChk
    rw [List.map_map]
    congr 1
    refine List.map_congr_left fun x _ => ?_
    obtain ⟨g1, g2, g3, g4⟩ := opX_same x
    show ((opX x).n, swE y.s.length (opX x)) = _
    unfold swE
    rw [g1, g2, g3, g4]
  have e2 : partsE (opened y) = 0 := by
    unfold partsE
    rw [e1, h6]
    show or0 (whenE y.s.isEmpty 12) (or0 (secChk y.s) _) = 0
    rw [h2, h4]
    rfl
  have e3 : shortB (opened y) = false := by
    unfold shortB
    rw [List.any_eq_false]
    intro i _
    rw [opened_earthed]
    simp
  unfold yardE
  rw [e2]
  unfold soundB
  rw [e3]
  rfl
section
variable {y : Yd} (hP : Parts y)
include hP
theorem isl_sub {i z : Int} (hi : i ∈ rng y.s.length) (hz : z ∈ y.isl false i) : z ∈ y.isl true i := by
  refine (mem_isl hP.ends hi).2 ?_
  refine ((mem_isl hP.ends hi).1 hz) _ .refl (fun c k hc hk => hc.step ?_)
  obtain ⟨x, hx, hj, h⟩ := mem_nbrs.1 hk
  refine mem_nbrs.2 ⟨x, hx, ?_, h⟩
  unfold joinsB at hj ⊢
  cases h1 : (x.k.toList == earthL) <;> rw [h1] at hj
  · cases h2 : x.c <;> rw [h2] at hj <;> simp at hj ⊢
  · simp at hj
theorem sep_energ {i : Int} (hi : i ∈ rng y.s.length) (h : sepB y i = true) : energB y i = false := by
  unfold sepB at h
  unfold energB
  have h1 : fedB y (y.isl true i) = false := by simpa using h
  unfold fedB at h1 ⊢
  rw [List.any_eq_false] at h1 ⊢
  exact fun z hz => h1 z (isl_sub hP hi hz)
end
theorem chkGo_uniq : ∀ (l : List (ByteArray × Int)) (b : List ByteArray), chkGo b l = 0 → (∀ q ∈ l, hasW b q.1 = false) ∧ l.Pairwise (fun p q => (p.1.toList == q.1.toList) = false)
  | [], _, _ => ⟨by simp, .nil⟩
  | (s, e) :: r, b, h => by
    unfold chkGo at h
    split at h
    · rename_i h'
      obtain ⟨h1, h2⟩ := chkGo_uniq r _ h
      have hs : hasW b s = false := by
        unfold chkOne at h'
        rw [firstE_cons, firstE_cons] at h'
        have := (or0_zero (or0_zero h').1).2
        rw [firstE_cons] at this
        exact whenE_zero (by decide) (or0_zero this).1
      have hb : ∀ q ∈ r, hasW b q.1 = false ∧ (s.toList == q.1.toList) = false := fun q hq => by
        have := h1 q hq
        unfold hasW at this ⊢
        rw [List.any_append] at this
        simpa using this
      refine ⟨fun q hq => ?_, List.pairwise_cons.2 ⟨fun q hq => (hb q hq).2, h2⟩⟩
      rcases List.mem_cons.1 hq with rfl | hq
      · exact hs
      · exact (hb q hq).1
    · rename_i h'; exact absurd h h'
theorem chkAll_uniq {l : List (ByteArray × Int)} (h : chkAll l = 0) : l.Pairwise (fun p q => (p.1.toList == q.1.toList) = false) := by
  unfold chkAll at h
  split at h
  · cases h
  · exact (chkGo_uniq l _ h).2
theorem sw_uniq {y : Yd} (h : yardE y = 0) : y.w.Pairwise (fun p q => (p.n.toList == q.n.toList) = false) := by
  have h1 := (or0_zero h).1
  unfold partsE at h1
  have h3 := (or0_zero (or0_zero (or0_zero h1).2).2).1
  have := chkAll_uniq h3
  rw [List.pairwise_map] at this
  exact this
theorem left_has {y : Yd} (h : yardE y = 0) {x : Sw} (hx : x ∈ y.w) : hasW (leftL y) x.n = leftB y x := by
  rw [Bool.eq_iff_iff]
  unfold hasW leftL
  rw [List.any_map, List.any_eq_true]
  constructor
  · rintro ⟨z, hz, he⟩
    obtain ⟨h1, h2⟩ := List.mem_filter.1 hz
    have hu := sw_uniq h
    obtain ⟨a, ha, rfl⟩ := List.getElem_of_mem hx
    obtain ⟨b, hb, rfl⟩ := List.getElem_of_mem h1
    have hab : a = b := by
      rcases Nat.lt_trichotomy a b with h3 | h3 | h3
      · have := List.pairwise_iff_getElem.1 hu a b ha hb h3
        have he' : (y.w[b].n.toList == y.w[a].n.toList) = true := he
        rw [Bool.beq_comm] at he'
        rw [he'] at this; cases this
      · exact h3
      · have := List.pairwise_iff_getElem.1 hu b a hb ha h3
        have he' : (y.w[b].n.toList == y.w[a].n.toList) = true := he
        rw [he'] at this; cases this
    subst hab
    exact h2
  · intro h1
    exact ⟨x, List.mem_filter.2 ⟨hx, h1⟩, beq_self_eq_true _⟩
/-- An earth is left: it is closed and no permit's section is numbered as its own. -/
theorem left_of {y : Yd} (h : yardE y = 0) (hP : Parts y) {x : Sw} (hx : x ∈ y.w) (hk : (x.k.toList == earthL) = true) : hasW (leftL y) x.n = (x.c && !y.p.any (fun p => ofAt (islsL y) 0 p.s == ofAt (islsL y) 0 x.a)) := by
  rw [left_has h hx]
  unfold leftB
  rw [hk, Bool.true_and]
  congr 2
  rw [Bool.eq_iff_iff, List.any_eq_true, List.any_eq_true]
  have ha := mem_rng.2 (hP.sa x hx)
  constructor
  · rintro ⟨p, hp, h1⟩
    refine ⟨p, hp, ?_⟩
    rw [Bool.beq_comm, of_eq hP ha (mem_rng.2 (hP.ps p hp))]
    exact h1
  · rintro ⟨p, hp, h1⟩
    refine ⟨p, hp, ?_⟩
    rw [Bool.beq_comm, of_eq hP ha (mem_rng.2 (hP.ps p hp))] at h1
    exact h1
/-- A closed switch that is no earth joins what lies in one island. -/
theorem of_joined {y : Yd} (hP : Parts y) {x : Sw} (hx : x ∈ y.w) (hk : (x.k.toList == earthL) = false) (hc : x.c = true) : ofAt (islsL y) 0 x.a = ofAt (islsL y) 0 x.b := by
  have ha := mem_rng.2 (hP.sa x hx)
  have hb := mem_rng.2 (hP.sb x hx hk)
  refine eq_of_beq ?_
  rw [of_eq hP ha hb, hasI_iff]
  refine (mem_isl hP.ends ha).2 (Rch.refl.step (mem_nbrs.2 ⟨x, hx, ?_, .inl ⟨rfl, rfl⟩⟩))
  unfold joinsB
  rw [hk, hc]
  rfl
end Go.Proofs.YtphlojgmfkgeiaaGreatDoor
