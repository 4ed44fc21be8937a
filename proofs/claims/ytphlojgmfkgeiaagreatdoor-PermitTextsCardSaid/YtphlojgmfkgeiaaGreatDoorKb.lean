/- Joined texts: PI PB PS PT PO. -/
import Derived.Test.YtphlojgmfkgeiaaGreatDoorKa
/- Islands: what a search along the switches reaches; in plain words. -/
namespace Go.Proofs.YtphlojgmfkgeiaaGreatDoor
theorem hasI_iff (zs : List Int) (z : Int) : hasI zs z = true ↔ z ∈ zs := by simp [hasI]

/-- What a switch leads to from section c. -/
def nbSw (all : Bool) (c : Int) (x : Sw) : List Int := (if joinsB x all && x.a == c then [x.b] else []) ++ (if joinsB x all && x.b == c then [x.a] else [])
def nbrs (l : List Sw) (all : Bool) (c : Int) : List Int := l.flatMap (nbSw all c)
def addNew (l : List Int) (k : Int) : List Int := if hasI l k then l else l ++ [k]
def addAll (l ks : List Int) : List Int := ks.foldl addNew l
def bfs (nb : Int → List Int) : Nat → Nat → List Int → List Int
  | 0, _, l => l
  | f + 1, i, l => match l[i]? with
    | some c => bfs nb f (i + 1) (addAll l (nb c))
    | none => l
def insI (z : Int) : List Int → List Int
  | [] => [z]
  | x :: r => if z ≤ x then z :: x :: r else x :: insI z r
def sortI (l : List Int) : List Int := l.foldr insI []
def islB (n : Nat) (l : List Sw) (all : Bool) (s : Int) : List Int := bfs (nbrs l all) (n + 1) 0 [s]
/-- The island of a section of n ones. -/
def isl (n : Nat) (l : List Sw) (all : Bool) (s : Int) : List Int := sortI (islB n l all s)

/-- z is reached from s: it has every property that s has and that what follows keeps. -/
def Rch (nb : Int → List Int) (s z : Int) : Prop := ∀ P : Int → Prop, P s → (∀ c k, P c → k ∈ nb c → P k) → P z
theorem Rch.refl {nb : Int → List Int} {s : Int} : Rch nb s s := fun _ h _ => h
theorem Rch.step {nb : Int → List Int} {s c k : Int} (h : Rch nb s c) (hk : k ∈ nb c) : Rch nb s k := fun P h0 h1 => h1 c k (h P h0 h1) hk
theorem mem_addNew (l : List Int) (k z : Int) : z ∈ addNew l k ↔ z ∈ l ∨ z = k := by
  unfold addNew
  split
  · rename_i h
    rw [hasI_iff] at h
    constructor
    · exact Or.inl
    · rintro (h' | rfl)
      · exact h'
      · exact h
  · simp
theorem mem_addAll (ks : List Int) : ∀ (l : List Int) (z : Int), z ∈ addAll l ks ↔ z ∈ l ∨ z ∈ ks := by
  induction ks with
  | nil => intro l z; simp [addAll]
  | cons k r ih =>
    intro l z
    show z ∈ addAll (addNew l k) r ↔ _
    rw [ih, mem_addNew, List.mem_cons, or_assoc]
theorem addNew_pre (l : List Int) (k : Int) : l <+: addNew l k := by
  unfold addNew
  split
  · exact List.prefix_refl _
  · exact List.prefix_append _ _
theorem addAll_pre (ks : List Int) : ∀ l : List Int, l <+: addAll l ks := by
  induction ks with
  | nil => intro l; exact List.prefix_refl _
  | cons k r ih => intro l; exact (addNew_pre l k).trans (ih _)
theorem addNew_nodup {l : List Int} (k : Int) (h : l.Nodup) : (addNew l k).Nodup := by
  unfold addNew
  split
  · exact h
  · rename_i h'
    have h' : k ∉ l := by simpa [hasI_iff] using h'
    rw [List.nodup_append]
    exact ⟨h, by simp, fun a ha b hb => by simp at hb; subst hb; rintro rfl; exact h' ha⟩
theorem addAll_nodup (ks : List Int) : ∀ {l : List Int}, l.Nodup → (addAll l ks).Nodup := by
  induction ks with
  | nil => intro l h; exact h
  | cons k r ih => intro l h; exact ih (addNew_nodup k h)
/-- A search's state: all that the first i lead to has come. -/
structure Bf (nb : Int → List Int) (s : Int) (U : List Int) (i : Nat) (l : List Int) : Prop where
  nd : l.Nodup
  le : i ≤ l.length
  st : s ∈ l
  ok : ∀ z ∈ l, Rch nb s z
  un : ∀ z ∈ l, z ∈ U
  cl : ∀ j c, j < i → l[j]? = some c → ∀ k ∈ nb c, k ∈ l
theorem Bf.start {nb : Int → List Int} {s : Int} {U : List Int} (h : s ∈ U) : Bf nb s U 0 [s] :=
  ⟨by simp, by simp, by simp, fun z hz => by simp at hz; subst hz; exact .refl, fun z hz => by simp at hz; subst hz; exact h, fun j c hj => by omega⟩
theorem pre_get {α : Type} {l m : List α} (h : l <+: m) {j : Nat} (hj : j < l.length) : m[j]? = l[j]? := by
  obtain ⟨t, rfl⟩ := h
  exact List.getElem?_append_left hj
theorem Bf.next {nb : Int → List Int} {s : Int} {U : List Int} {i : Nat} {l : List Int} {c : Int} (h : Bf nb s U i l) (hU : ∀ c ∈ U, ∀ k ∈ nb c, k ∈ U) (hc : l[i]? = some c) : Bf nb s U (i + 1) (addAll l (nb c)) := by
  have hi : i < l.length := (List.getElem?_eq_some_iff.1 hc).1
  have hp := addAll_pre (nb c) l
  have hcl : c ∈ l := List.mem_of_getElem? hc
  refine ⟨addAll_nodup _ h.nd, by have := hp.length_le; omega, (mem_addAll _ _ _).2 (.inl h.st), fun z hz => ?_, fun z hz => ?_, fun j d hj hd k hk => ?_⟩
  · rcases (mem_addAll _ _ _).1 hz with hz | hz
    · exact h.ok z hz
    · exact .step (h.ok c hcl) hz
  · rcases (mem_addAll _ _ _).1 hz with hz | hz
    · exact h.un z hz
    · exact hU c (h.un c hcl) z hz
  · rw [pre_get hp (by omega)] at hd
    refine (mem_addAll _ _ _).2 ?_
    rcases Nat.lt_or_ge j i with hlt | hge
    · exact .inl (h.cl j d hlt hd k hk)
    · obtain rfl : j = i := by omega
      rw [hc] at hd
      cases hd
      exact .inr hk
theorem Bf.mem {nb : Int → List Int} {s : Int} {U l : List Int} (h : Bf nb s U l.length l) {z : Int} : z ∈ l ↔ Rch nb s z := by
  refine ⟨h.ok z, fun hr => hr (fun z => z ∈ l) h.st fun c k ih hk => ?_⟩
  obtain ⟨j, hj, e⟩ := List.getElem_of_mem ih
  exact h.cl j _ hj (by rw [List.getElem?_eq_getElem hj, e]) _ hk
theorem nodup_len : ∀ {l U : List Int}, l.Nodup → (∀ z ∈ l, z ∈ U) → l.length ≤ U.length
  | [], _, _, _ => by simp
  | a :: r, U, h, hs => by
    rw [List.nodup_cons] at h
    have ha : a ∈ U := hs a List.mem_cons_self
    have := nodup_len (U := U.erase a) h.2 (fun z hz => by
      have hne : z ≠ a := by rintro rfl; exact h.1 hz
      exact (List.mem_erase_of_ne hne).2 (hs z (List.mem_cons_of_mem _ hz)))
    rw [List.length_erase_of_mem ha] at this
    have : 0 < U.length := List.length_pos_of_mem ha
    simp only [List.length_cons]; omega
theorem Bf.bound {nb : Int → List Int} {s : Int} {U l : List Int} {i : Nat} (h : Bf nb s U i l) : l.length ≤ U.length := nodup_len h.nd h.un
/-- The search is over when the fuel is. -/
theorem bfs_end {nb : Int → List Int} {s : Int} {U : List Int} (hU : ∀ c ∈ U, ∀ k ∈ nb c, k ∈ U) : ∀ (f i : Nat) (l : List Int), Bf nb s U i l → U.length < f + i → Bf nb s U (bfs nb f i l).length (bfs nb f i l)
  | 0, i, l, h, hf => by have := h.bound; have := h.le; omega
  | f + 1, i, l, h, hf => by
    unfold bfs
    split
    · rename_i c hc
      exact bfs_end hU f (i + 1) _ (h.next hU hc) (by omega)
    · rename_i hc
      have : l.length ≤ i := by simpa using hc
      have := h.le
      obtain rfl : i = l.length := by omega
      exact h
/-- More fuel changes nothing. -/
theorem bfs_more {nb : Int → List Int} {s : Int} {U : List Int} (hU : ∀ c ∈ U, ∀ k ∈ nb c, k ∈ U) : ∀ (f g i : Nat) (l : List Int), Bf nb s U i l → U.length < f + i → U.length < g + i → bfs nb f i l = bfs nb g i l
  | 0, g, i, l, h, hf, hg => by have := h.bound; have := h.le; omega
  | f + 1, 0, i, l, h, hf, hg => by have := h.bound; have := h.le; omega
  | f + 1, g + 1, i, l, h, hf, hg => by
    unfold bfs
    split
    · rename_i c hc
      exact bfs_more hU f g (i + 1) _ (h.next hU hc) (by omega) (by omega)
    · rfl

def rng (n : Nat) : List Int := (List.range n).map fun i : Nat => (i : Int)
theorem mem_rng {n : Nat} {z : Int} : z ∈ rng n ↔ 0 ≤ z ∧ z < n := by
  simp only [rng, List.mem_map, List.mem_range]
  constructor
  · rintro ⟨i, hi, rfl⟩; omega
  · rintro ⟨h0, h1⟩; exact ⟨z.toNat, by omega, by omega⟩
theorem rng_len (n : Nat) : (rng n).length = n := by simp [rng]
theorem rng_succ (n : Nat) : rng (n + 1) = rng n ++ [(n : Int)] := by simp [rng, List.range_succ]
theorem rng_sorted (n : Nat) : (rng n).Pairwise (· < ·) := by
  unfold rng
  rw [List.pairwise_map]
  exact List.pairwise_lt_range.imp (fun h => by omega)
theorem mem_insI {z x : Int} {l : List Int} : z ∈ insI x l ↔ z = x ∨ z ∈ l := by
  induction l with
  | nil => simp [insI]
  | cons a r ih =>
    unfold insI
    split
    · simp
    · simp only [List.mem_cons, ih]
      constructor
      · rintro (h | h | h) <;> simp [h]
      · rintro (h | h | h) <;> simp [h]
theorem insI_sorted {x : Int} {l : List Int} (h : l.Pairwise (· < ·)) (hx : x ∉ l) : (insI x l).Pairwise (· < ·) := by
  induction l with
  | nil => simp [insI]
  | cons a r ih =>
    rw [List.pairwise_cons] at h
    simp only [List.mem_cons, not_or] at hx
    unfold insI
    split
    · rw [List.pairwise_cons, List.pairwise_cons]
      refine ⟨fun b hb => ?_, h.1, h.2⟩
      rcases List.mem_cons.1 hb with rfl | hb
      · have := hx.1; omega
      · have := h.1 b hb; omega
    · rw [List.pairwise_cons]
      refine ⟨fun b hb => ?_, ih h.2 hx.2⟩
      rcases mem_insI.1 hb with rfl | hb
      · omega
      · exact h.1 b hb
theorem mem_sortI {z : Int} {l : List Int} : z ∈ sortI l ↔ z ∈ l := by
  induction l with
  | nil => simp [sortI]
  | cons a r ih =>
    show z ∈ insI a (sortI r) ↔ _
    rw [mem_insI, ih, List.mem_cons]
theorem sortI_sorted {l : List Int} (h : l.Nodup) : (sortI l).Pairwise (· < ·) := by
  induction l with
  | nil => simp [sortI]
  | cons a r ih =>
    rw [List.nodup_cons] at h
    exact insI_sorted (ih h.2) (fun hm => h.1 (mem_sortI.1 hm))
theorem sorted_ext {l m : List Int} (hl : l.Pairwise (· < ·)) (hm : m.Pairwise (· < ·)) (h : ∀ z, z ∈ l ↔ z ∈ m) : l = m := by
  induction l generalizing m with
  | nil => cases m with
    | nil => rfl
    | cons b t => exact absurd ((h b).2 List.mem_cons_self) (by simp)
  | cons a r ih =>
    cases m with
    | nil => exact absurd ((h a).1 List.mem_cons_self) (by simp)
    | cons b t =>
      rw [List.pairwise_cons] at hl hm
      have hab : a = b := by
        rcases List.mem_cons.1 ((h a).1 List.mem_cons_self) with e | e
        · exact e
        · rcases List.mem_cons.1 ((h b).2 List.mem_cons_self) with e' | e'
          · exact e'.symm
          · have := hm.1 a e; have := hl.1 b e'; omega
      subst hab
      rw [ih hl.2 hm.2]
      intro z
      constructor
      · intro hz
        have h1 := hl.1 z hz
        rcases List.mem_cons.1 ((h z).1 (List.mem_cons_of_mem _ hz)) with e | e
        · omega
        · exact e
      · intro hz
        have h1 := hm.1 z hz
        rcases List.mem_cons.1 ((h z).2 (List.mem_cons_of_mem _ hz)) with e | e
        · omega
        · exact e
/-- The ends of all switches that join lie among the sections. -/
def EndsIn (n : Nat) (l : List Sw) : Prop := ∀ x ∈ l, (x.k.toList == earthL) = false → (0 ≤ x.a ∧ x.a < n) ∧ 0 ≤ x.b ∧ x.b < n
theorem joins_kind {x : Sw} {all : Bool} (h : joinsB x all = true) : (x.k.toList == earthL) = false := by
  unfold joinsB at h
  cases h' : (x.k.toList == earthL) with
  | false => rfl
  | true => rw [h'] at h; simp at h
theorem mem_nbrs {l : List Sw} {all : Bool} {c k : Int} : k ∈ nbrs l all c ↔ ∃ x ∈ l, joinsB x all = true ∧ (x.a = c ∧ x.b = k ∨ x.b = c ∧ x.a = k) := by
  simp only [nbrs, List.mem_flatMap, nbSw, List.mem_append]
  constructor
  · rintro ⟨x, hx, h | h⟩
    · split at h
      · rename_i hh
        simp at h hh
        exact ⟨x, hx, hh.1, .inl ⟨hh.2, h.symm⟩⟩
      · cases h
    · split at h
      · rename_i hh
        simp at h hh
        exact ⟨x, hx, hh.1, .inr ⟨hh.2, h.symm⟩⟩
      · cases h
  · rintro ⟨x, hx, hj, ⟨rfl, rfl⟩ | ⟨rfl, rfl⟩⟩
    · exact ⟨x, hx, .inl (by simp [hj])⟩
    · exact ⟨x, hx, .inr (by simp [hj])⟩
theorem nbrs_in {n : Nat} {l : List Sw} {all : Bool} (h : EndsIn n l) : ∀ c ∈ rng n, ∀ k ∈ nbrs l all c, k ∈ rng n := by
  intro c _ k hk
  obtain ⟨x, hx, hj, ⟨_, rfl⟩ | ⟨_, rfl⟩⟩ := mem_nbrs.1 hk
  · exact mem_rng.2 (h x hx (joins_kind hj)).2
  · exact mem_rng.2 (h x hx (joins_kind hj)).1
/-- The island: the sections that the search reaches, ascending. -/
theorem islB_ok {n : Nat} {l : List Sw} (all : Bool) {s : Int} (h : EndsIn n l) (hs : s ∈ rng n) : Bf (nbrs l all) s (rng n) (islB n l all s).length (islB n l all s) :=
  bfs_end (nbrs_in h) _ _ _ (Bf.start hs) (by rw [rng_len]; omega)
theorem mem_isl {n : Nat} {l : List Sw} {all : Bool} {s : Int} (h : EndsIn n l) (hs : s ∈ rng n) {z : Int} : z ∈ isl n l all s ↔ Rch (nbrs l all) s z := by
  rw [isl, mem_sortI, (islB_ok all h hs).mem]
theorem isl_sorted {n : Nat} {l : List Sw} {all : Bool} {s : Int} (h : EndsIn n l) (hs : s ∈ rng n) : (isl n l all s).Pairwise (· < ·) := sortI_sorted (islB_ok all h hs).nd
theorem isl_in {n : Nat} {l : List Sw} {all : Bool} {s : Int} (h : EndsIn n l) (hs : s ∈ rng n) {z : Int} (hz : z ∈ isl n l all s) : z ∈ rng n :=
  (islB_ok all h hs).un z (mem_sortI.1 hz)
theorem isl_self {n : Nat} {l : List Sw} {all : Bool} {s : Int} (h : EndsIn n l) (hs : s ∈ rng n) : s ∈ isl n l all s := (mem_isl h hs).2 .refl
theorem isl_len {n : Nat} {l : List Sw} {all : Bool} {s : Int} (h : EndsIn n l) (hs : s ∈ rng n) : (isl n l all s).length ≤ n := by
  have := nodup_len ((isl_sorted (all := all) h hs).imp (fun h => by omega)) (fun z hz => isl_in h hs hz)
  rwa [rng_len] at this
/-- A list by marks is the island, where the marks are what the search reaches. -/
theorem isl_marks {n : Nat} {l : List Sw} {all : Bool} {s : Int} (h : EndsIn n l) (hs : s ∈ rng n) (p : Int → Bool) (hp : ∀ z, z ∈ rng n → (p z = true ↔ Rch (nbrs l all) s z)) : (rng n).filter p = isl n l all s :=
  sorted_ext ((rng_sorted n).filter _) (isl_sorted h hs) fun z => by
    rw [List.mem_filter, mem_isl h hs]
    constructor
    · rintro ⟨h1, h2⟩; exact (hp z h1).1 h2
    · intro hr
      have hz := isl_in h hs ((mem_isl h hs).2 hr)
      exact ⟨hz, (hp z hz).2 hr⟩

def mrk (m : List Bool) (z : Int) : Bool := m.getD z.toNat false
def mHit (all : Bool) (m : List Bool) (x : Sw) : Bool := joinsB x all && (mrk m x.a != mrk m x.b)
def mStep (all : Bool) (m : List Bool) (x : Sw) : List Bool := if mHit all m x then (m.set x.a.toNat true).set x.b.toNat true else m
def mPass (all : Bool) (m : List Bool) (l : List Sw) : List Bool := l.foldl (mStep all) m
def mMore (all : Bool) (m : List Bool) : List Sw → Bool
  | [] => false
  | x :: r => mHit all m x || mMore all (mStep all m x) r
def nFalse (m : List Bool) : Nat := m.count false
/-- The marks, on the way. -/
structure Mk (n : Nat) (l : List Sw) (all : Bool) (s : Int) (m : List Bool) : Prop where
  len : m.length = n
  st : mrk m s = true
  ok : ∀ z ∈ rng n, mrk m z = true → Rch (nbrs l all) s z
theorem mk_set {m : List Bool} {i : Nat} {z : Int} : mrk (m.set i true) z = (mrk m z || (decide (i = z.toNat) && decide (i < m.length))) := by
  unfold mrk
  rw [List.getD_eq_getElem?_getD, List.getD_eq_getElem?_getD, List.getElem?_set]
  by_cases h : i = z.toNat
  · subst h
    by_cases h2 : z.toNat < m.length
    · simp [h2]
    · simp [h2]
  · simp [h]
theorem mk_step {n : Nat} {l : List Sw} {all : Bool} {m : List Bool} {x : Sw} (h : EndsIn n l) (hx : x ∈ l) (hl : m.length = n) (hh : mHit all m x = true) {z : Int} (hz : z ∈ rng n) : mrk (mStep all m x) z = (mrk m z || decide (z = x.a) || decide (z = x.b)) := by
  have hj : joinsB x all = true := by unfold mHit at hh; simp at hh; exact hh.1
  obtain ⟨⟨a0, a1⟩, b0, b1⟩ := h x hx (joins_kind hj)
  have ⟨z0, z1⟩ := mem_rng.1 hz
  rw [mStep, if_pos hh, mk_set, mk_set]
  have e1 : decide (x.a.toNat = z.toNat) = decide (z = x.a) := by rw [decide_eq_decide]; omega
  have e2 : decide (x.b.toNat = z.toNat) = decide (z = x.b) := by rw [decide_eq_decide]; omega
  rw [e1, e2, List.length_set, show decide (x.a.toNat < m.length) = true by simp; omega, show decide (x.b.toNat < m.length) = true by simp; omega]
  simp
theorem Mk.start {n : Nat} {l : List Sw} {all : Bool} {s : Int} (hs : s ∈ rng n) : Mk n l all s ((List.replicate n false).set s.toNat true) := by
  have ⟨s0, s1⟩ := mem_rng.1 hs
  have hr : ∀ z, mrk (List.replicate n false) z = false := by
    intro z
    unfold mrk
    rw [List.getD_eq_getElem?_getD, List.getElem?_replicate]
    split <;> rfl
  refine ⟨by simp, ?_, ?_⟩
  · rw [mk_set, hr]; simp; omega
  · intro z hz hm
    have ⟨z0, z1⟩ := mem_rng.1 hz
    rw [mk_set, hr] at hm
    simp at hm
    obtain rfl : z = s := by omega
    exact .refl
theorem mStep_len (all : Bool) (m : List Bool) (x : Sw) : (mStep all m x).length = m.length := by
  unfold mStep; split <;> simp
theorem Mk.step {n : Nat} {l : List Sw} {all : Bool} {s : Int} {m : List Bool} {x : Sw} (h : EndsIn n l) (hs : s ∈ rng n) (hm : Mk n l all s m) (hx : x ∈ l) : Mk n l all s (mStep all m x) := by
  cases hh : mHit all m x with
  | false => rw [mStep, hh]; exact hm
  | true =>
    have hh' := hh
    unfold mHit at hh'
    simp at hh'
    obtain ⟨hj, hne⟩ := hh'
    have hab := h x hx (joins_kind hj)
    refine ⟨by rw [mStep_len, hm.len], by rw [mk_step h hx hm.len hh hs, hm.st]; rfl, fun z hz hz1 => ?_⟩
    rw [mk_step h hx hm.len hh hz] at hz1
    have ha : mrk m x.a = true → Rch (nbrs l all) s x.a := hm.ok _ (mem_rng.2 hab.1)
    have hb : mrk m x.b = true → Rch (nbrs l all) s x.b := hm.ok _ (mem_rng.2 hab.2)
    have tb : Rch (nbrs l all) s x.a → Rch (nbrs l all) s x.b := fun hr => hr.step (mem_nbrs.2 ⟨x, hx, hj, .inl ⟨rfl, rfl⟩⟩)
    have ta : Rch (nbrs l all) s x.b → Rch (nbrs l all) s x.a := fun hr => hr.step (mem_nbrs.2 ⟨x, hx, hj, .inr ⟨rfl, rfl⟩⟩)
    simp at hz1
    rcases hz1 with (hz1 | rfl) | rfl
    · exact hm.ok z hz hz1
    · cases e : mrk m x.a with
      | true => exact ha e
      | false => cases e2 : mrk m x.b with
        | true => exact ta (hb e2)
        | false => rw [e, e2] at hne; exact absurd rfl hne
    · cases e : mrk m x.b with
      | true => exact hb e
      | false => cases e2 : mrk m x.a with
        | true => exact tb (ha e2)
        | false => rw [e, e2] at hne; exact absurd rfl hne
theorem mPass_succ (all : Bool) (m : List Bool) (l : List Sw) (k : Nat) (hk : k < l.length) : mPass all m (l.take (k + 1)) = mStep all (mPass all m (l.take k)) l[k] := by
  rw [List.take_succ_eq_append_getElem hk, mPass, List.foldl_append]; rfl
theorem mMore_append (all : Bool) : ∀ (l : List Sw) (m : List Bool) (x : Sw), mMore all m (l ++ [x]) = (mMore all m l || mHit all (mPass all m l) x)
  | [], _, x => by simp [mMore, mPass]
  | y :: r, m, x => by
    show (mHit all m y || mMore all (mStep all m y) (r ++ [x])) = _
    rw [mMore_append all r]
    simp [mMore, mPass, Bool.or_assoc]
theorem mMore_succ (all : Bool) (m : List Bool) (l : List Sw) (k : Nat) (hk : k < l.length) : mMore all m (l.take (k + 1)) = (mMore all m (l.take k) || mHit all (mPass all m (l.take k)) l[k]) := by
  rw [List.take_succ_eq_append_getElem hk, mMore_append]
theorem Mk.pass {n : Nat} {l : List Sw} {all : Bool} {s : Int} (h : EndsIn n l) (hs : s ∈ rng n) : ∀ (r : List Sw) {m : List Bool}, (∀ x ∈ r, x ∈ l) → Mk n l all s m → Mk n l all s (mPass all m r)
  | [], _, _, hm => hm
  | x :: r, _, hr, hm => Mk.pass h hs r (fun y hy => hr y (List.mem_cons_of_mem _ hy)) (hm.step h hs (hr x List.mem_cons_self))
/-- Nothing more: the marks are what the search reaches. -/
theorem no_more {all : Bool} : ∀ (r : List Sw) {m : List Bool}, mMore all m r = false → mPass all m r = m ∧ ∀ x ∈ r, joinsB x all = true → mrk m x.a = mrk m x.b
  | [], _, _ => ⟨rfl, by simp⟩
  | x :: r, m, h => by
    simp only [mMore, Bool.or_eq_false_iff] at h
    have e : mStep all m x = m := by rw [mStep, h.1]; rfl
    rw [e] at h
    obtain ⟨h1, h2⟩ := no_more r h.2
    refine ⟨by show mPass all (mStep all m x) r = m; rw [e, h1], fun y hy hj => ?_⟩
    rcases List.mem_cons.1 hy with rfl | hy
    · have := h.1
      unfold mHit at this
      rw [hj] at this
      simpa using this
    · exact h2 y hy hj
theorem Mk.done {n : Nat} {l : List Sw} {all : Bool} {s : Int} {m : List Bool} (h : EndsIn n l) (hs : s ∈ rng n) (hm : Mk n l all s m) (hn : mMore all m l = false) : (rng n).filter (mrk m) = isl n l all s := by
  obtain ⟨_, hj⟩ := no_more l hn
  refine isl_marks h hs _ fun z hz => ⟨hm.ok z hz, fun hr => hr (fun z => mrk m z = true) hm.st fun c k ih hk => ?_⟩
  obtain ⟨x, hx, hjx, ⟨rfl, rfl⟩ | ⟨rfl, rfl⟩⟩ := mem_nbrs.1 hk
  · rw [← hj x hx hjx]; exact ih
  · rw [hj x hx hjx]; exact ih
theorem count_set {m : List Bool} {i : Nat} (h : m[i]? = some false) : nFalse (m.set i true) + 1 = nFalse m := by
  induction m generalizing i with
  | nil => cases h
  | cons a r ih =>
    cases i with
    | zero => simp at h; subst h; simp [nFalse]
    | succ i =>
      have := ih (i := i) (by simpa using h)
      simp only [nFalse, List.set_cons_succ, List.count_cons] at this ⊢
      omega
theorem count_set_le (m : List Bool) (i : Nat) : nFalse (m.set i true) ≤ nFalse m := by
  induction m generalizing i with
  | nil => simp
  | cons a r ih =>
    cases i with
    | zero => cases a <;> simp [nFalse]
    | succ i =>
      have := ih i
      simp only [nFalse, List.set_cons_succ, List.count_cons] at this ⊢
      omega
theorem mStep_le (all : Bool) (m : List Bool) (x : Sw) : nFalse (mStep all m x) ≤ nFalse m := by
  unfold mStep
  split
  · exact Nat.le_trans (count_set_le _ _) (count_set_le _ _)
  · exact Nat.le_refl _
theorem mStep_lt {n : Nat} {l : List Sw} {all : Bool} {m : List Bool} {x : Sw} (h : EndsIn n l) (hx : x ∈ l) (hl : m.length = n) (hh : mHit all m x = true) : nFalse (mStep all m x) < nFalse m := by
  have hh' := hh
  unfold mHit at hh'
  simp at hh'
  obtain ⟨hj, hne⟩ := hh'
  obtain ⟨⟨a0, a1⟩, b0, b1⟩ := h x hx (joins_kind hj)
  rw [mStep, if_pos hh]
  cases e : mrk m x.a with
  | false =>
    have : m[x.a.toNat]? = some false := by
      unfold mrk at e
      rw [List.getD_eq_getElem?_getD, List.getElem?_eq_getElem (by omega)] at e
      rw [List.getElem?_eq_getElem (by omega)]
      simpa using e
    have h1 := count_set this
    have h2 := count_set_le (m.set x.a.toNat true) x.b.toNat
    omega
  | true =>
    have e2 : mrk m x.b = false := by
      cases e2 : mrk m x.b with
      | false => rfl
      | true => rw [e, e2] at hne; exact absurd rfl hne
    have : (m.set x.a.toNat true)[x.b.toNat]? = some false := by
      have hab : x.a.toNat ≠ x.b.toNat := by
        intro he
        have : x.a = x.b := by omega
        rw [this] at e; rw [e] at e2; cases e2
      unfold mrk at e2
      rw [List.getD_eq_getElem?_getD, List.getElem?_eq_getElem (by omega)] at e2
      rw [List.getElem?_set_ne hab, List.getElem?_eq_getElem (by omega)]
      simpa using e2
    have h1 := count_set this
    have h2 := count_set_le m x.a.toNat
    omega
theorem mPass_le (all : Bool) : ∀ (r : List Sw) (m : List Bool), nFalse (mPass all m r) ≤ nFalse m
  | [], _ => Nat.le_refl _
  | x :: r, m => Nat.le_trans (mPass_le all r (mStep all m x)) (mStep_le all m x)
theorem mPass_lt {n : Nat} {l : List Sw} {all : Bool} (h : EndsIn n l) : ∀ (r : List Sw) {m : List Bool}, (∀ x ∈ r, x ∈ l) → m.length = n → mMore all m r = true → nFalse (mPass all m r) < nFalse m
  | [], _, _, _, hm => by cases hm
  | x :: r, m, hr, hl, hm => by
    simp only [mMore, Bool.or_eq_true] at hm
    show nFalse (mPass all (mStep all m x) r) < _
    rcases hm with hm | hm
    · exact Nat.lt_of_le_of_lt (mPass_le all r _) (mStep_lt h (hr x List.mem_cons_self) hl hm)
    · exact Nat.lt_of_lt_of_le (mPass_lt h r (fun y hy => hr y (List.mem_cons_of_mem _ hy)) (by rw [mStep_len, hl]) hm) (mStep_le all m x)
end Go.Proofs.YtphlojgmfkgeiaaGreatDoor
/- Yards: what the program finds and checks, in plain words. -/
namespace Go.Proofs.YtphlojgmfkgeiaaGreatDoor

def isolatorL : List UInt8 := [105, 115, 111, 108, 97, 116, 111, 114]
def srcAt (s : List Sec) (i : Int) : Bool := ((s[i.toNat]?).map Sec.src).getD false
def Yd.isl (y : Yd) (all : Bool) (i : Int) : List Int := Go.Proofs.YtphlojgmfkgeiaaGreatDoor.isl y.s.length y.w all i
def fedB (y : Yd) (l : List Int) : Bool := l.any fun i => srcAt y.s i
def energB (y : Yd) (i : Int) : Bool := fedB y (y.isl false i)
def earthHit (l : List Int) (x : Sw) : Bool := (x.k.toList == earthL) && x.c && hasI l x.a
def earthedB (y : Yd) (i : Int) : Bool := y.w.any (earthHit (y.isl false i))
def sepB (y : Yd) (i : Int) : Bool := !fedB y (y.isl true i)
def secB (y : Yd) (i : Int) : Bool := sepB y i && earthedB y i
def those (n : Nat) (p : Int → Bool) : List Int := (rng n).filter p
def shortB (y : Yd) : Bool := (rng y.s.length).any fun i => energB y i && earthedB y i
def openB (y : Yd) : Bool := y.p.any fun x => !secB y x.s
def soundB (y : Yd) : Bool := !shortB y && !openB y
def hasN (n : Nat) (i : Int) : Bool := decide (0 ≤ i ∧ i < n)

def letterB (c : UInt8) : Bool := (65 ≤ c && c ≤ 90) || (97 ≤ c && c ≤ 122)
def tailB (c : UInt8) : Bool := letterB c || (48 ≤ c && c ≤ 57) || c == 95
/-- The bytes of a name: the first one a letter. -/
def scanB : Bool → List UInt8 → Bool
  | _, [] => true
  | true, c :: r => letterB c && scanB false r
  | false, c :: r => tailB c && scanB false r
def nameB (s : ByteArray) : Bool := scanB true s.data.toList && (!s.data.toList.isEmpty && decide (s.data.toList.length ≤ 24))
def nameE (s : ByteArray) : Int := whenE (!nameB s) 8
def kindB (k : ByteArray) : Bool := k.toList == breakerL || k.toList == isolatorL || k.toList == earthL
def swE (n : Nat) (x : Sw) : Int :=
  if kindB x.k then
    if x.k.toList == earthL then firstE [whenE (!hasN n x.a) 10, whenE (!(x.b == -1)) 24]
    else firstE [whenE (!hasN n x.a || !hasN n x.b) 10, whenE (x.a == x.b) 24]
  else 13
def chkOne (b : List ByteArray) (s : ByteArray) (e : Int) : Int := firstE [firstE [nameE s, whenE (hasW b s) 9], e]
def chkGo (b : List ByteArray) : List (ByteArray × Int) → Int
  | [] => 0
  | (s, e) :: r => if chkOne b s e = 0 then chkGo (b ++ [s]) r else chkOne b s e
def chkAll (l : List (ByteArray × Int)) : Int := if 8 < l.length then 5 else chkGo [] l
def secChk (l : List Sec) : Int := chkAll (l.map fun x => (x.n, 0))
def swChk (n : Nat) (l : List Sw) : Int := chkAll (l.map fun x => (x.n, swE n x))
def pmChk (n : Nat) (l : List Pm) : Int := chkAll (l.map fun x => (x.n, whenE (!hasN n x.s) 10))
def or0 (a b : Int) : Int := if a = 0 then b else a
def partsE (y : Yd) : Int := or0 (whenE y.s.isEmpty 12) (or0 (secChk y.s) (or0 (swChk y.s.length y.w) (pmChk y.s.length y.p)))
def yardE (y : Yd) : Int := or0 (partsE y) (whenE (!soundB y) 22)
/-- What a yard without errors in its parts gives. -/
structure Parts (y : Yd) : Prop where
  n0 : 0 < y.s.length
  n8 : y.s.length ≤ 8
  w8 : y.w.length ≤ 8
  p8 : y.p.length ≤ 8
  sa : ∀ x ∈ y.w, 0 ≤ x.a ∧ x.a < y.s.length
  sb : ∀ x ∈ y.w, (x.k.toList == earthL) = false → 0 ≤ x.b ∧ x.b < y.s.length
  ps : ∀ x ∈ y.p, 0 ≤ x.s ∧ x.s < y.s.length
theorem firstE_cons (a : Int) (r : List Int) : firstE (a :: r) = or0 a (firstE r) := by
  unfold firstE or0
  by_cases h : a = 0
  · subst h; simp
  · simp [h]
theorem firstE_nil : firstE [] = 0 := rfl
theorem or0_zero {a b : Int} (h : or0 a b = 0) : a = 0 ∧ b = 0 := by
  unfold or0 at h
  split at h
  · rename_i h'; exact ⟨h', h⟩
  · rename_i h'; exact absurd h h'
theorem whenE_zero {b : Bool} {n : Int} (hn : n ≠ 0) (h : whenE b n = 0) : b = false := by
  cases b
  · rfl
  · exact absurd h hn
theorem chkGo_zero : ∀ (l : List (ByteArray × Int)) (b : List ByteArray), chkGo b l = 0 → ∀ q ∈ l, q.2 = 0
  | [], _, _ => by simp
  | (s, e) :: r, b, h => by
    unfold chkGo at h
    split at h
    · rename_i h'
      intro q hq
      rcases List.mem_cons.1 hq with rfl | hq
      · unfold chkOne at h'
        rw [firstE_cons] at h'
        have h2 := (or0_zero h').2
        rw [firstE_cons] at h2
        exact (or0_zero h2).1
      · exact chkGo_zero r _ h q hq
    · rename_i h'; exact absurd h h'
theorem chkAll_zero {l : List (ByteArray × Int)} (h : chkAll l = 0) : l.length ≤ 8 ∧ ∀ q ∈ l, q.2 = 0 := by
  unfold chkAll at h
  split at h
  · cases h
  · exact ⟨by omega, chkGo_zero l _ h⟩
theorem hasN_iff {n : Nat} {i : Int} : hasN n i = true ↔ 0 ≤ i ∧ i < n := by simp [hasN]
theorem parts_of {y : Yd} (h : partsE y = 0) : Parts y := by
  unfold partsE at h
  obtain ⟨h0, h⟩ := or0_zero h
  obtain ⟨h1, h⟩ := or0_zero h
  obtain ⟨h2, h3⟩ := or0_zero h
  have e0 := whenE_zero (by decide) h0
  obtain ⟨l1, _⟩ := chkAll_zero h1
  obtain ⟨l2, g2⟩ := chkAll_zero h2
  obtain ⟨l3, g3⟩ := chkAll_zero h3
  rw [List.length_map] at l1 l2 l3
  have sw : ∀ x ∈ y.w, swE y.s.length x = 0 := fun x hx => g2 (x.n, swE y.s.length x) (List.mem_map.2 ⟨x, hx, rfl⟩)
  refine ⟨List.length_pos_iff.2 (by rintro e; rw [e] at e0; cases e0), l1, l2, l3, fun x hx => ?_, fun x hx hk => ?_, fun x hx => ?_⟩
  · have := sw x hx
    unfold swE at this
    split at this
    · split at this
      · rw [firstE_cons] at this
        have := whenE_zero (by decide) (or0_zero this).1
        exact hasN_iff.1 (by simpa using this)
      · rw [firstE_cons] at this
        have := whenE_zero (by decide) (or0_zero this).1
        simp at this
        exact hasN_iff.1 this.1
    · cases this
  · have := sw x hx
    unfold swE at this
    split at this
    · rw [hk] at this
      simp only [Bool.false_eq_true, if_false] at this
      rw [firstE_cons] at this
      have := whenE_zero (by decide) (or0_zero this).1
      simp at this
      exact hasN_iff.1 this.2
    · cases this
  · have := g3 (x.n, whenE (!hasN y.s.length x.s) 10) (List.mem_map.2 ⟨x, hx, rfl⟩)
    have := whenE_zero (by decide) this
    exact hasN_iff.1 (by simpa using this)
theorem Parts.ends {y : Yd} (h : Parts y) : EndsIn y.s.length y.w := fun x hx hk => ⟨h.sa x hx, h.sb x hx hk⟩
end Go.Proofs.YtphlojgmfkgeiaaGreatDoor
/- States, locks, the search; in plain words. -/
namespace Go.Proofs.YtphlojgmfkgeiaaGreatDoor

def bitB (s : Int) (i : Nat) : Bool := decide (s / 2 ^ i % 2 = 1)
def moved (l : List Sw) (i : Nat) : List Sw := l.modify i fun x => { x with c := !x.c }
def withL (l : List Sw) (s : Int) : List Sw := l.mapIdx fun i x => { x with c := bitB s i }
def Sw.base (x : Sw) : Sw := { x with c := false }
theorem bit_low {a : Int} {i k : Nat} (h : i < k) : bitB (a + 2 ^ k) i = bitB a i := by
  unfold bitB
  obtain ⟨d, rfl⟩ : ∃ d, k = i + (d + 1) := ⟨k - i - 1, by omega⟩
  have hp : (0 : Int) < 2 ^ i := Int.pow_pos (by omega)
  have e : (2 : Int) ^ (i + (d + 1)) = 2 ^ i * (2 ^ d * 2) := by rw [Int.pow_add, Int.pow_succ]
  rw [e, Int.add_mul_ediv_left _ _ (by omega)]
  have e2 : (a / 2 ^ i + 2 ^ d * 2) % 2 = a / 2 ^ i % 2 := by omega
  rw [e2]
theorem bit_top {a : Int} {k : Nat} (h0 : 0 ≤ a) (h1 : a < 2 ^ k) : bitB (a + 2 ^ k) k = true ∧ bitB a k = false := by
  unfold bitB
  have hp : (0 : Int) < 2 ^ k := Int.pow_pos (by omega)
  have e0 : a / 2 ^ k = 0 := Int.ediv_eq_zero_of_lt h0 h1
  have e1 : (a + 2 ^ k) / 2 ^ k = 1 := by
    rw [show a + 2 ^ k = a + 2 ^ k * 1 by omega, Int.add_mul_ediv_left _ _ (by omega), e0]; rfl
  rw [e0, e1]
  decide
theorem stUp_bit (l : List Sw) : ∀ (k i : Nat) (hk : k ≤ l.length) (hi : i < k), bitB (stUp l k) i = l[i].c
  | k + 1, i, hk, hi => by
    have hb := stUp_bd l k
    have e : stUp l (k + 1) = if l[k].c then stUp l k + 2 ^ k else stUp l k := by
      simp only [stUp, List.getElem?_eq_getElem (show k < l.length by omega)]
    rw [e]
    rcases Nat.lt_or_ge i k with hlt | hge
    · have ih := stUp_bit l k i (by omega) hlt
      split
      · rw [bit_low hlt, ih]
      · exact ih
    · obtain rfl : i = k := by omega
      have hb2 := bit_top hb.1 hb.2
      split
      · rename_i hc; rw [hb2.1, hc]
      · rename_i hc
        rw [hb2.2]
        cases e' : l[i].c with
        | false => rfl
        | true => exact absurd e' hc
theorem withL_len (l : List Sw) (s : Int) : (withL l s).length = l.length := by simp [withL]
theorem moved_len (l : List Sw) (i : Nat) : (moved l i).length = l.length := by simp [moved]
theorem withL_get (l : List Sw) (s : Int) (i : Nat) (h : i < l.length) : (withL l s)[i]'(by rw [withL_len]; exact h) = { l[i] with c := bitB s i } := by simp [withL]
theorem withL_self (l : List Sw) : withL l (stUp l l.length) = l := by
  refine List.ext_getElem (withL_len _ _) fun i h1 h2 => ?_
  rw [withL_get l _ i h2, stUp_bit l _ i (Nat.le_refl _) h2]
theorem withL_base (l : List Sw) (s : Int) : (withL l s).map Sw.base = l.map Sw.base := by
  refine List.ext_getElem (by simp [withL_len]) fun i h1 h2 => ?_
  simp [withL, Sw.base]
theorem moved_base (l : List Sw) (i : Nat) : (moved l i).map Sw.base = l.map Sw.base := by
  refine List.ext_getElem (by simp [moved_len]) fun j h1 h2 => ?_
  simp only [List.getElem_map, moved, List.getElem_modify]
  split <;> simp [Sw.base]
/-- Two rows that part in what is closed alone. -/
theorem withL_congr {l m : List Sw} (h : l.map Sw.base = m.map Sw.base) (s : Int) : withL l s = withL m s := by
  have hl : l.length = m.length := by simpa using congrArg List.length h
  refine List.ext_getElem (by simp [withL_len, hl]) fun i h1 h2 => ?_
  rw [withL_len] at h1 h2
  rw [withL_get l s i h1, withL_get m s i h2]
  have : (l.map Sw.base)[i]'(by simpa using h1) = (m.map Sw.base)[i]'(by simpa using h2) := by simp only [h]
  simp only [List.getElem_map, Sw.base] at this
  injection this with e1 e2 e3 e4 e5
  simp only [Sw.mk.injEq]
  exact ⟨e1, e2, e3, e4, trivial⟩
theorem with_of_base {l m : List Sw} (h : m.map Sw.base = l.map Sw.base) : withL l (stUp m l.length) = m := by
  have hl : m.length = l.length := by simpa using congrArg List.length h
  rw [withL_congr h.symm, ← hl, withL_self]
theorem moved_with (l : List Sw) (s : Int) (i : Nat) : withL l (stUp (moved (withL l s) i) l.length) = moved (withL l s) i :=
  with_of_base (by rw [moved_base, withL_base])
theorem bit_mod (s : Int) (k : Nat) : s % 2 ^ (k + 1) = s % 2 ^ k + (if bitB s k then 2 ^ k else 0) := by
  have hp : (0 : Int) < 2 ^ k := Int.pow_pos (by omega)
  have h1 := Int.mul_ediv_add_emod s (2 ^ k)
  have h2 := Int.emod_nonneg s (show (2 : Int) ^ k ≠ 0 by omega)
  have h3 := Int.emod_lt_of_pos s hp
  have e : (2 : Int) ^ (k + 1) = 2 ^ k * 2 := Int.pow_succ ..
  have hq := Int.mul_ediv_add_emod (s / 2 ^ k) 2
  unfold bitB
  generalize hqq : s / 2 ^ k = q at *
  generalize hrr : s % 2 ^ k = r at *
  have hs : s = 2 ^ k * 2 * (q / 2) + (2 ^ k * (q % 2) + r) := by
    calc s = 2 ^ k * q + r := h1.symm
      _ = 2 ^ k * (2 * (q / 2) + q % 2) + r := by rw [hq]
      _ = 2 ^ k * 2 * (q / 2) + (2 ^ k * (q % 2) + r) := by rw [Int.mul_add, Int.mul_assoc, Int.add_assoc]
  have hm : q % 2 = 0 ∨ q % 2 = 1 := by omega
  rw [e]
  have key : ∀ t : Int, 0 ≤ t → t < 2 ^ k * 2 → (2 ^ k * 2 * (q / 2) + t) % (2 ^ k * 2) = t := fun t t0 t1 => by
    rw [Int.mul_add_emod_self_left]; exact Int.emod_eq_of_lt t0 t1
  rcases hm with hm | hm
  · rw [hm] at hs ⊢
    simp only [Int.mul_zero, Int.zero_add] at hs
    rw [hs, key r h2 (by omega)]
    simp
  · rw [hm] at hs ⊢
    simp only [Int.mul_one] at hs
    rw [hs, key (2 ^ k + r) (by omega) (by omega)]
    simp; omega
theorem stUp_with (l : List Sw) (s : Int) : ∀ k, k ≤ l.length → stUp (withL l s) k = s % 2 ^ k
  | 0, _ => by simp [stUp]
  | k + 1, hk => by
    have e : stUp (withL l s) (k + 1) = if bitB s k then stUp (withL l s) k + 2 ^ k else stUp (withL l s) k := by
      simp only [stUp, List.getElem?_eq_getElem (show k < (withL l s).length by rw [withL_len]; omega), withL_get l s k (by omega)]
    rw [e, bit_mod, stUp_with l s k (by omega)]
    split <;> simp
theorem stUp_with_eq {l : List Sw} {s : Int} (h0 : 0 ≤ s) (h1 : s < 2 ^ l.length) : stUp (withL l s) l.length = s := by
  rw [stUp_with l s _ (Nat.le_refl _)]; exact Int.emod_eq_of_lt h0 h1

def Yd.at (y : Yd) (s : Int) : Yd := { y with w := withL y.w s }
def Yd.mv (y : Yd) (i : Nat) : Yd := { y with w := moved y.w i }
def enL (y : Yd) : List Int := those y.s.length (energB y)
/-- The first lock: 1 load, 2 short, 3 apart, 4 permit; 0 none. -/
def whyN (y : Yd) (i : Nat) : Nat := match y.w[i]? with
  | none => 0
  | some x =>
    if x.k.toList == isolatorL && !(enL y == enL (y.mv i)) then 1
    else if shortB (y.mv i) then 2
    else if x.k.toList == earthL && !x.c && !sepB (y.mv i) x.a then 3
    else if openB (y.mv i) then 4
    else 0
def nextS (y : Yd) (s : Int) (i : Nat) : Int := stUp (moved (withL y.w s) i) y.w.length
def freeS (y : Yd) (s : Int) (i : Nat) : Bool := whyN (y.at s) i == 0
/-- The states to which the first k switches lead. -/
def outS (y : Yd) (s : Int) (k : Nat) : List Int := (List.range k).filterMap fun i => if freeS y s i then some (nextS y s i) else none
def nbS (y : Yd) (s : Int) : List Int := outS y s y.w.length
structure Pl where
  s : Int
  m : List Int
def pTry (y : Yd) (p : Pl) (ps : List Pl) (i : Nat) : List Pl := if !hasI (ps.map Pl.s) (nextS y p.s i) && freeS y p.s i then ps ++ [⟨nextS y p.s i, p.m ++ [(i : Int)]⟩] else ps
def pExp (y : Yd) (p : Pl) (ps : List Pl) (k : Nat) : List Pl := (List.range k).foldl (pTry y p) ps
def pGo (y : Yd) (found : Int → Bool) : Nat → Nat → List Pl → List Pl × Option Pl
  | 0, _, ps => (ps, none)
  | f + 1, n, ps => match ps[n]? with
    | none => (ps, none)
    | some p => if found p.s then (ps, some p) else pGo y found f (n + 1) (pExp y p ps y.w.length)
def y0 (y : Yd) : Int := stUp y.w y.w.length
def searchL (y : Yd) (found : Int → Bool) : List Pl × Option Pl := pGo y found (2 ^ y.w.length + 1) 0 [⟨y0 y, []⟩]
theorem pExp_succ (y : Yd) (p : Pl) (ps : List Pl) (k : Nat) : pExp y p ps (k + 1) = pTry y p (pExp y p ps k) k := by
  simp [pExp, List.range_succ]
theorem outS_succ (y : Yd) (s : Int) (k : Nat) : outS y s (k + 1) = outS y s k ++ (if freeS y s k then [nextS y s k] else []) := by
  simp only [outS, List.range_succ, List.filterMap_append, List.filterMap_cons, List.filterMap_nil]
  split <;> rename_i h <;> split at h <;> simp_all
theorem addAll_append (l a b : List Int) : addAll l (a ++ b) = addAll (addAll l a) b := by simp [addAll]
theorem pExp_map (y : Yd) (p : Pl) (ps : List Pl) : ∀ k, (pExp y p ps k).map Pl.s = addAll (ps.map Pl.s) (outS y p.s k)
  | 0 => by simp [pExp, outS, addAll]
  | k + 1 => by
    rw [pExp_succ, outS_succ, addAll_append, ← pExp_map y p ps k]
    generalize pExp y p ps k = qs
    unfold pTry
    cases freeS y p.s k with
    | false => simp [addAll]
    | true =>
      show _ = addNew (qs.map Pl.s) (nextS y p.s k)
      unfold addNew
      cases hasI (qs.map Pl.s) (nextS y p.s k) <;> simp
theorem nextS_in (y : Yd) (s : Int) (i : Nat) : nextS y s i ∈ rng (2 ^ y.w.length) := by
  have h := stUp_bd (moved (withL y.w s) i) y.w.length
  exact mem_rng.2 ⟨h.1, by simpa [nextS] using h.2⟩
theorem nbS_in (y : Yd) : ∀ c ∈ rng (2 ^ y.w.length), ∀ k ∈ nbS y c, k ∈ rng (2 ^ y.w.length) := by
  intro c _ k hk
  simp only [nbS, outS, List.mem_filterMap] at hk
  obtain ⟨i, _, hi⟩ := hk
  split at hi
  · cases hi; exact nextS_in y c i
  · cases hi
theorem y0_in (y : Yd) : y0 y ∈ rng (2 ^ y.w.length) := by
  have h := stUp_bd y.w y.w.length
  exact mem_rng.2 ⟨h.1, by simpa [y0] using h.2⟩
/-- All states that are reached, in the order in which the search finds them. -/
def reachB (y : Yd) : List Int := bfs (nbS y) (2 ^ y.w.length + 1) 0 [y0 y]
def reachL (y : Yd) : List Int := sortI (reachB y)
theorem reachB_ok (y : Yd) : Bf (nbS y) (y0 y) (rng (2 ^ y.w.length)) (reachB y).length (reachB y) :=
  bfs_end (nbS_in y) _ _ _ (Bf.start (y0_in y)) (by rw [rng_len]; omega)
/-- A search that finds nothing has all states. -/
theorem pGo_none (y : Yd) (found : Int → Bool) : ∀ (f n : Nat) (ps : List Pl), (pGo y found f n ps).2 = none → (pGo y found f n ps).1.map Pl.s = bfs (nbS y) f n (ps.map Pl.s)
  | 0, _, _, _ => rfl
  | f + 1, n, ps, h => by
    unfold pGo at h ⊢
    unfold bfs
    rw [List.getElem?_map]
    cases e : ps[n]? with
    | none => rfl
    | some p =>
      rw [e] at h
      simp only [Option.map_some] at h ⊢
      split at h
      · cases h
      · rename_i hf
        rw [if_neg hf, pGo_none y found f (n + 1) _ h, pExp_map]
        rfl
end Go.Proofs.YtphlojgmfkgeiaaGreatDoor
/- The search finds a least way: the fewest moves, and of these the first in the order of the switches; in plain words. -/
namespace Go.Proofs.YtphlojgmfkgeiaaGreatDoor
def lexL : List Int → List Int → Prop
  | x :: r, z :: t => x < z ∨ (x = z ∧ lexL r t)
  | _, _ => False
/-- Shorter, or as long and ahead in the order of words. -/
def sltL (a b : List Int) : Prop := a.length < b.length ∨ (a.length = b.length ∧ lexL a b)
def sleL (a b : List Int) : Prop := a = b ∨ sltL a b
theorem lexL_irr : ∀ a, ¬ lexL a a
  | [], h => by simp [lexL] at h
  | x :: r, h => by
    rcases h with h | ⟨_, h⟩
    · omega
    · exact lexL_irr r h
theorem lexL_trans : ∀ {a b c : List Int}, lexL a b → lexL b c → lexL a c
  | [], _, _, h, _ => by simp [lexL] at h
  | _ :: _, [], _, h, _ => by simp [lexL] at h
  | _ :: _, _ :: _, [], _, h => by simp [lexL] at h
  | x :: a, z :: b, u :: c, h, k => by
    rcases h with h | ⟨rfl, h⟩
    · rcases k with k | ⟨rfl, k⟩
      · exact .inl (by omega)
      · exact .inl h
    · rcases k with k | ⟨rfl, k⟩
      · exact .inl k
      · exact .inr ⟨rfl, lexL_trans h k⟩
theorem lexL_app : ∀ {a b : List Int} (u v : List Int), lexL a b → lexL (a ++ u) (b ++ v)
  | [], _, _, _, h => by simp [lexL] at h
  | _ :: _, [], _, _, h => by simp [lexL] at h
  | x :: a, z :: b, u, v, h => by
    rcases h with h | ⟨e, h⟩
    · exact .inl h
    · exact .inr ⟨e, lexL_app u v h⟩
theorem lexL_snoc : ∀ (a : List Int) {i j : Int}, i < j → lexL (a ++ [i]) (a ++ [j])
  | [], _, _, h => .inl h
  | _ :: a, _, _, h => .inr ⟨rfl, lexL_snoc a h⟩
theorem sltL_trans {a b c : List Int} (h : sltL a b) (k : sltL b c) : sltL a c := by
  rcases h with h | ⟨e, h⟩
  · rcases k with k | ⟨e', _⟩
    · exact .inl (by omega)
    · exact .inl (by omega)
  · rcases k with k | ⟨e', k⟩
    · exact .inl (by omega)
    · exact .inr ⟨by omega, lexL_trans h k⟩
theorem sltL_irr (a : List Int) : ¬ sltL a a := by
  rintro (h | ⟨_, h⟩)
  · omega
  · exact lexL_irr a h
theorem sltL_app {a b : List Int} (i j : Int) (h : sltL a b) : sltL (a ++ [i]) (b ++ [j]) := by
  rcases h with h | ⟨e, h⟩
  · exact .inl (by simp; omega)
  · exact .inr ⟨by simp [e], lexL_app _ _ h⟩
theorem sltL_snoc (a : List Int) {i j : Int} (h : i < j) : sltL (a ++ [i]) (a ++ [j]) := .inr ⟨by simp, lexL_snoc a h⟩
theorem sltL_more (a : List Int) (i : Int) : sltL a (a ++ [i]) := .inl (by simp)
theorem sleL.trans {a b c : List Int} (h : sleL a b) (k : sleL b c) : sleL a c := by
  rcases h with rfl | h
  · exact k
  · rcases k with rfl | k
    · exact .inr h
    · exact .inr (sltL_trans h k)
theorem sleL.app {a b : List Int} (h : sleL a b) (i : Int) : sleL (a ++ [i]) (b ++ [i]) := by
  rcases h with rfl | h
  · exact .inl rfl
  · exact .inr (sltL_app i i h)
theorem sleL.antisymm {a b : List Int} (h : sleL a b) (k : sleL b a) : a = b := by
  rcases h with e | h
  · exact e
  · rcases k with e | k
    · exact e.symm
    · exact absurd (sltL_trans h k) (sltL_irr a)
theorem sleL.len {a b : List Int} (h : sleL a b) : a.length ≤ b.length := by
  rcases h with rfl | h | ⟨e, _⟩
  · exact Nat.le_refl _
  · omega
  · omega
theorem snoc_ind {P : List Int → Prop} (h0 : P []) (h1 : ∀ l i, P l → P (l ++ [i])) (l : List Int) : P l := by
  have key : ∀ l : List Int, P l.reverse := by
    intro l
    induction l with
    | nil => exact h0
    | cons a r ih => rw [List.reverse_cons]; exact h1 _ _ ih
  have := key l.reverse
  rwa [List.reverse_reverse] at this
/-- Where moves lead from a state, if no lock forbids one. -/
def runS (y : Yd) : Int → List Int → Option Int
  | s, [] => some s
  | s, i :: r => if decide (0 ≤ i ∧ i < y.w.length) && freeS y s i.toNat then runS y (nextS y s i.toNat) r else none
theorem runS_snoc (y : Yd) (i : Int) : ∀ (a : List Int) (s : Int), runS y s (a ++ [i]) = (runS y s a).bind fun t => if decide (0 ≤ i ∧ i < y.w.length) && freeS y t i.toNat then some (nextS y t i.toNat) else none
  | [], s => by simp only [List.nil_append, runS, Option.bind_some]
  | x :: a, s => by
    simp only [List.cons_append, runS]
    split
    · exact runS_snoc y i a _
    · rfl
/-- A search's state: place number n is looked at, k switches of it are over. -/
structure PgI (y : Yd) (found : Int → Bool) (n k : Nat) (ps : List Pl) : Prop where
  st : ps[0]? = some ⟨y0 y, []⟩
  pa : ∀ p ∈ ps, runS y (y0 y) p.m = some p.s
  so : ps.Pairwise fun a b => sltL a.m b.m
  la : ∀ p ∈ ps, p.m = [] ∨ ∃ (a i : Nat) (q : Pl), (a < n ∨ a = n ∧ i < k) ∧ ps[a]? = some q ∧ p.m = q.m ++ [(i : Int)]
  nf : ∀ (a : Nat) (q : Pl), a < n → ps[a]? = some q → found q.s = false
  dn : ∀ (a i : Nat) (q : Pl), (a < n ∨ a = n ∧ i < k) → i < y.w.length → ps[a]? = some q → freeS y q.s i = true → ∃ p ∈ ps, p.s = nextS y q.s i ∧ sleL p.m (q.m ++ [(i : Int)])
  ln : ∀ (j : Nat) (p : Pl), ps[j]? = some p → p.m.length ≤ j
  nd : (ps.map Pl.s).Nodup
  un : ∀ p ∈ ps, p.s ∈ rng (2 ^ y.w.length)
theorem PgI.start (y : Yd) (found : Int → Bool) : PgI y found 0 0 [⟨y0 y, []⟩] := by
  refine ⟨rfl, fun p hp => ?_, by simp, fun p hp => ?_, fun a q h => by omega, fun a i q h => by omega, fun j p hp => ?_, by simp, fun p hp => ?_⟩
  · simp at hp; subst hp; rfl
  · simp at hp; subst hp; exact .inl rfl
  · cases j with
    | zero => simp at hp; subst hp; simp
    | succ j => simp at hp
  · simp at hp; subst hp; exact y0_in y
theorem PgI.bound {y : Yd} {found : Int → Bool} {n k : Nat} {ps : List Pl} (h : PgI y found n k ps) : ps.length ≤ 2 ^ y.w.length := by
  have := nodup_len h.nd (U := rng (2 ^ y.w.length)) (fun z hz => by
    obtain ⟨p, hp, rfl⟩ := List.mem_map.1 hz
    exact h.un p hp)
  rwa [List.length_map, rng_len] at this
theorem PgI.lt {y : Yd} {found : Int → Bool} {n k : Nat} {ps : List Pl} {p : Pl} (h : PgI y found n k ps) (hp : ps[n]? = some p) : ∀ q ∈ ps, sltL q.m (p.m ++ [(k : Int)]) := by
  intro q hq
  rcases h.la q hq with e | ⟨a, i, r, hai, hr, e⟩
  · exact .inl (by simp [e])
  · rw [e]
    rcases hai with ha | ⟨rfl, hi⟩
    · refine sltL_app _ _ ?_
      obtain ⟨hn, en⟩ := List.getElem?_eq_some_iff.1 hp
      obtain ⟨ha', ea⟩ := List.getElem?_eq_some_iff.1 hr
      have := List.pairwise_iff_getElem.1 h.so a n ha' hn ha
      rwa [ea, en] at this
    · rw [hp] at hr
      cases hr
      exact sltL_snoc _ (by omega)
theorem PgI.step {y : Yd} {found : Int → Bool} {n k : Nat} {ps : List Pl} {p : Pl} (h : PgI y found n k ps) (hp : ps[n]? = some p) (hk : k < y.w.length) : PgI y found n (k + 1) (pTry y p ps k) ∧ (pTry y p ps k)[n]? = some p := by
  have hlt := h.lt hp
  have hn : n < ps.length := (List.getElem?_eq_some_iff.1 hp).1
  have hpm : p ∈ ps := List.mem_of_getElem? hp
  unfold pTry
  cases hb : (!hasI (ps.map Pl.s) (nextS y p.s k) && freeS y p.s k) with
  | false =>
    simp only [Bool.false_eq_true, if_false]
    refine ⟨⟨h.st, h.pa, h.so, fun q hq => ?_, h.nf, fun a i q hai hi hq hf => ?_, h.ln, h.nd, h.un⟩, hp⟩
    · rcases h.la q hq with e | ⟨a, i, r, hai, hr⟩
      · exact .inl e
      · exact .inr ⟨a, i, r, by omega, hr⟩
    · rcases (show (a < n ∨ a = n ∧ i < k) ∨ (a = n ∧ i = k) by omega) with hai' | ⟨rfl, rfl⟩
      · exact h.dn a i q hai' hi hq hf
      · rw [hp] at hq
        cases hq
        rw [hf, Bool.and_true, Bool.not_eq_false', hasI_iff] at hb
        obtain ⟨r, hr, e⟩ := List.mem_map.1 hb
        exact ⟨r, hr, e, .inr (hlt r hr)⟩
  | true =>
    simp only [if_true]
    simp only [Bool.and_eq_true, Bool.not_eq_true'] at hb
    obtain ⟨hb, hf0⟩ := hb
    have hnin : nextS y p.s k ∉ ps.map Pl.s := by rw [← hasI_iff, hb]; simp
    have get : ∀ a, a < ps.length → (ps ++ [⟨nextS y p.s k, p.m ++ [(k : Int)]⟩])[a]? = ps[a]? := fun a ha => List.getElem?_append_left ha
    refine ⟨⟨by rw [get 0 (by omega)]; exact h.st, fun q hq => ?_, ?_, fun q hq => ?_, fun a q ha hq => ?_, fun a i q hai hi hq hf => ?_, fun j q hq => ?_, ?_, fun q hq => ?_⟩, by rw [get n hn]; exact hp⟩
    · rcases List.mem_append.1 hq with hq | hq
      · exact h.pa q hq
      · simp at hq
        subst hq
        rw [runS_snoc, h.pa p hpm]
        simp [hf0, hk]
    · rw [List.pairwise_append]
      exact ⟨h.so, by simp, fun a ha b hb => by simp at hb; subst hb; exact hlt a ha⟩
    · rcases List.mem_append.1 hq with hq | hq
      · rcases h.la q hq with e | ⟨a, i, r, hai, hr, e⟩
        · exact .inl e
        · exact .inr ⟨a, i, r, by omega, by rw [get a (by omega)]; exact hr, e⟩
      · simp at hq
        subst hq
        exact .inr ⟨n, k, p, by omega, by rw [get n hn]; exact hp, rfl⟩
    · rw [get a (by omega)] at hq
      exact h.nf a q ha hq
    · rw [get a (by omega)] at hq
      rcases (show (a < n ∨ a = n ∧ i < k) ∨ (a = n ∧ i = k) by omega) with hai' | ⟨rfl, rfl⟩
      · obtain ⟨r, hr, e⟩ := h.dn a i q hai' hi hq hf
        exact ⟨r, List.mem_append_left _ hr, e⟩
      · rw [hp] at hq
        cases hq
        exact ⟨_, List.mem_append_right _ List.mem_cons_self, rfl, .inl rfl⟩
    · rcases Nat.lt_or_ge j ps.length with hj | hj
      · rw [get j hj] at hq
        exact h.ln j q hq
      · rw [List.getElem?_append_right hj] at hq
        rcases Nat.lt_or_ge (j - ps.length) 1 with h1 | h1
        · rw [show j - ps.length = 0 by omega] at hq
          simp at hq
          subst hq
          have := h.ln n p hp
          simp only [List.length_append, List.length_cons, List.length_nil]
          omega
        · rw [List.getElem?_eq_none (by simpa using h1)] at hq
          cases hq
    · rw [List.map_append, List.nodup_append]
      refine ⟨h.nd, by simp, fun a ha b hb => ?_⟩
      simp at hb
      subst hb
      rintro rfl
      exact hnin ha
    · rcases List.mem_append.1 hq with hq | hq
      · exact h.un q hq
      · simp at hq
        subst hq
        exact nextS_in y p.s k
theorem PgI.exp {y : Yd} {found : Int → Bool} {n : Nat} {ps : List Pl} {p : Pl} (h : PgI y found n 0 ps) (hp : ps[n]? = some p) : ∀ k, k ≤ y.w.length → PgI y found n k (pExp y p ps k) ∧ (pExp y p ps k)[n]? = some p
  | 0, _ => ⟨h, hp⟩
  | k + 1, hk => by
    obtain ⟨h1, h2⟩ := PgI.exp h hp k (by omega)
    rw [pExp_succ]
    exact h1.step h2 (by omega)
theorem PgI.next {y : Yd} {found : Int → Bool} {n : Nat} {ps : List Pl} {p : Pl} (h : PgI y found n 0 ps) (hp : ps[n]? = some p) (hf : found p.s = false) : PgI y found (n + 1) 0 (pExp y p ps y.w.length) := by
  obtain ⟨h1, h2⟩ := h.exp hp _ (Nat.le_refl _)
  refine ⟨h1.st, h1.pa, h1.so, fun q hq => ?_, fun a q ha hq => ?_, fun a i q hai hi hq hfr => ?_, h1.ln, h1.nd, h1.un⟩
  · rcases h1.la q hq with e | ⟨a, i, r, hai, hr⟩
    · exact .inl e
    · exact .inr ⟨a, i, r, by omega, hr⟩
  · rcases (show a < n ∨ a = n by omega) with ha | rfl
    · exact h1.nf a q ha hq
    · rw [h2] at hq
      cases hq
      exact hf
  · exact h1.dn a i q (by omega) hi hq hfr
theorem pGo_ok (y : Yd) (found : Int → Bool) : ∀ (f n : Nat) (ps : List Pl), PgI y found n 0 ps → n ≤ ps.length → 2 ^ y.w.length < f + n →
    ∃ n', PgI y found n' 0 (pGo y found f n ps).1 ∧ match (pGo y found f n ps).2 with
      | none => (pGo y found f n ps).1.length ≤ n'
      | some p => (pGo y found f n ps).1[n']? = some p ∧ found p.s = true
  | 0, n, ps, h, hn, hf => by have := h.bound; omega
  | f + 1, n, ps, h, hn, hf => by
    unfold pGo
    cases e : ps[n]? with
    | none => exact ⟨n, h, by simpa using e⟩
    | some p =>
      dsimp only
      cases hq : found p.s with
      | true => exact ⟨n, h, e, hq⟩
      | false =>
        simp only [Bool.false_eq_true, if_false]
        have hlen : n < ps.length := (List.getElem?_eq_some_iff.1 e).1
        have hle := (List.getElem?_eq_some_iff.1 (h.exp e _ (Nat.le_refl _)).2).1
        exact pGo_ok y found f (n + 1) _ (h.next e hq) (by omega) (by omega)
/-- Each way is matched by a place, or the place that is looked at lies ahead of it. -/
theorem PgI.ways {y : Yd} {found : Int → Bool} {n : Nat} {ps : List Pl} (h : PgI y found n 0 ps) (ms : List Int) : ∀ t, runS y (y0 y) ms = some t → (∃ (j : Nat) (q : Pl), ps[j]? = some q ∧ q.s = t ∧ sleL q.m ms) ∨ (∃ p : Pl, ps[n]? = some p ∧ sltL p.m ms) := by
  refine snoc_ind (P := fun ms => ∀ t, runS y (y0 y) ms = some t → (∃ (j : Nat) (q : Pl), ps[j]? = some q ∧ q.s = t ∧ sleL q.m ms) ∨ (∃ p : Pl, ps[n]? = some p ∧ sltL p.m ms)) ?_ ?_ ms
  · intro t ht
    simp only [runS, Option.some.injEq] at ht
    exact .inl ⟨0, _, h.st, ht, .inl rfl⟩
  · intro l i ih t ht
    rw [runS_snoc] at ht
    cases hr : runS y (y0 y) l with
    | none => rw [hr] at ht; cases ht
    | some u =>
      rw [hr] at ht
      simp only [Option.bind_some] at ht
      split at ht
      · rename_i hc
        simp only [Option.some.injEq] at ht
        simp only [Bool.and_eq_true, decide_eq_true_eq] at hc
        obtain ⟨⟨h0, h1⟩, hf⟩ := hc
        obtain ⟨k, rfl⟩ := Int.eq_ofNat_of_zero_le h0
        simp only [Int.toNat_natCast] at hf ht
        rcases ih u hr with ⟨j, q, hj, rfl, hle⟩ | ⟨p, hp, hl⟩
        · rcases Nat.lt_or_ge j n with hjn | hjn
          · obtain ⟨r, hrm, e, hle2⟩ := h.dn j k q (.inl hjn) (by omega) hj hf
            obtain ⟨a, ha, ea⟩ := List.getElem_of_mem hrm
            exact .inl ⟨a, r, by rw [List.getElem?_eq_getElem ha, ea], by rw [e, ht], hle2.trans (hle.app _)⟩
          · have hjl : j < ps.length := (List.getElem?_eq_some_iff.1 hj).1
            have hnl : n < ps.length := by omega
            refine .inr ⟨ps[n], List.getElem?_eq_getElem hnl, ?_⟩
            have hpq : sleL ps[n].m q.m := by
              rcases (show n < j ∨ n = j by omega) with hlt | rfl
              · have := List.pairwise_iff_getElem.1 h.so n j hnl hjl hlt
                rw [(List.getElem?_eq_some_iff.1 hj).2] at this
                exact .inr this
              · rw [(List.getElem?_eq_some_iff.1 hj).2]; exact .inl rfl
            rcases hpq.trans hle with e | hlt
            · rw [e]; exact sltL_more _ _
            · exact sltL_trans hlt (sltL_more _ _)
        · exact .inr ⟨p, hp, sltL_trans hl (sltL_more _ _)⟩
      · cases ht
/-- The search finds a least way, or there is none. -/
theorem search_some {y : Yd} {found : Int → Bool} {p : Pl} (h : (searchL y found).2 = some p) :
    runS y (y0 y) p.m = some p.s ∧ found p.s = true ∧ p.m.length < 2 ^ y.w.length ∧ ∀ ms t, runS y (y0 y) ms = some t → found t = true → sleL p.m ms := by
  obtain ⟨n, hi, hm⟩ := pGo_ok y found (2 ^ y.w.length + 1) 0 _ (PgI.start y found) (by simp) (by omega)
  change PgI y found n 0 (searchL y found).1 at hi
  change (match (searchL y found).2 with | none => _ | some p => (searchL y found).1[n]? = some p ∧ found p.s = true) at hm
  rw [h] at hm
  obtain ⟨hp, hf⟩ := hm
  have hpn : n < (searchL y found).1.length := (List.getElem?_eq_some_iff.1 hp).1
  refine ⟨hi.pa p (List.mem_of_getElem? hp), hf, ?_, fun ms t ht hft => ?_⟩
  · have := hi.ln n p hp
    have := hi.bound
    omega
  · rcases hi.ways ms t ht with ⟨j, q, hj, rfl, hle⟩ | ⟨p', hp', hl⟩
    · rcases Nat.lt_or_ge j n with hjn | hjn
      · have := hi.nf j q hjn hj
        rw [hft] at this
        cases this
      · refine sleL.trans ?_ hle
        have hjl : j < (searchL y found).1.length := (List.getElem?_eq_some_iff.1 hj).1
        rcases (show n < j ∨ n = j by omega) with hlt | rfl
        · have := List.pairwise_iff_getElem.1 hi.so n j hpn hjl hlt
          rw [(List.getElem?_eq_some_iff.1 hj).2, (List.getElem?_eq_some_iff.1 hp).2] at this
          exact .inr this
        · rw [hp] at hj
          cases hj
          exact .inl rfl
    · rw [hp] at hp'
      cases hp'
      exact .inr hl
theorem search_none {y : Yd} {found : Int → Bool} (h : (searchL y found).2 = none) : (searchL y found).1.map Pl.s = reachB y ∧ ∀ s ∈ reachB y, found s = false := by
  have e : (searchL y found).1.map Pl.s = reachB y := pGo_none y found _ _ _ h
  refine ⟨e, fun s hs => ?_⟩
  obtain ⟨n, hi, hm⟩ := pGo_ok y found (2 ^ y.w.length + 1) 0 _ (PgI.start y found) (by simp) (by omega)
  change PgI y found n 0 (searchL y found).1 at hi
  change (match (searchL y found).2 with | none => (searchL y found).1.length ≤ n | some p => _) at hm
  rw [h] at hm
  rw [← e] at hs
  obtain ⟨q, hq, rfl⟩ := List.mem_map.1 hs
  obtain ⟨a, ha, ea⟩ := List.getElem_of_mem hq
  exact hi.nf a q (by have : (searchL y found).1.length ≤ n := hm; omega) (by rw [List.getElem?_eq_getElem ha, ea])
/-- What is reached is what moves lead to. -/
theorem run_reach {y : Yd} (ms : List Int) : ∀ t, runS y (y0 y) ms = some t → t ∈ reachB y := by
  refine snoc_ind (P := fun ms => ∀ t, runS y (y0 y) ms = some t → t ∈ reachB y) ?_ ?_ ms
  · intro t ht
    simp only [runS, Option.some.injEq] at ht
    subst ht
    exact (reachB_ok y).st
  · intro l i ih t ht
    rw [runS_snoc] at ht
    cases hr : runS y (y0 y) l with
    | none => rw [hr] at ht; cases ht
    | some u =>
      rw [hr] at ht
      simp only [Option.bind_some] at ht
      split at ht
      · rename_i hc
        simp only [Option.some.injEq] at ht
        simp only [Bool.and_eq_true, decide_eq_true_eq] at hc
        obtain ⟨⟨h0, h1⟩, hf⟩ := hc
        have hu := (reachB_ok y).mem.1 (ih u hr)
        refine (reachB_ok y).mem.2 (hu.step ?_)
        simp only [nbS, outS, List.mem_filterMap, List.mem_range]
        exact ⟨i.toNat, by omega, by rw [if_pos hf, ht]⟩
      · cases ht
end Go.Proofs.YtphlojgmfkgeiaaGreatDoor
/- The reference's distances and its way: they are the search's least way; in plain words. -/
namespace Go.Proofs.YtphlojgmfkgeiaaGreatDoor
/-- The fewest moves to a goal, if they are at most n; else -1. -/
def dst (y : Yd) (found : Int → Bool) : Nat → Int → Int
  | 0, s => if hasI (reachB y) s && found s then 0 else -1
  | n + 1, s => if decide (dst y found n s < 0) && (hasI (reachB y) s && (List.range y.w.length).any fun k => freeS y s k && dst y found n (nextS y s k) == (n : Int)) then ((n + 1 : Nat) : Int) else dst y found n s
/-- The way that takes the first switch that leads nearer. -/
def ordG (y : Yd) (found : Int → Bool) (M : Nat) : Nat → Int → List Int
  | 0, _ => []
  | d + 1, s => match (List.range y.w.length).find? (fun k => freeS y s k && dst y found M (nextS y s k) == (d : Int)) with
    | some k => (k : Int) :: ordG y found M d (nextS y s k)
    | none => []
theorem reach_step {y : Yd} {s : Int} {k : Nat} (hs : s ∈ reachB y) (hk : k < y.w.length) (hf : freeS y s k = true) : nextS y s k ∈ reachB y := by
  refine (reachB_ok y).mem.2 (((reachB_ok y).mem.1 hs).step ?_)
  simp only [nbS, outS, List.mem_filterMap, List.mem_range]
  exact ⟨k, hk, by rw [if_pos hf]⟩
section
variable {y : Yd} {found : Int → Bool}
theorem dst_rng : ∀ (n : Nat) (s : Int), dst y found n s = -1 ∨ (0 ≤ dst y found n s ∧ dst y found n s ≤ n)
  | 0, s => by
    unfold dst
    split
    · exact .inr (by omega)
    · exact .inl rfl
  | n + 1, s => by
    unfold dst
    split
    · exact .inr (by omega)
    · rcases dst_rng n s with h | h
      · exact .inl h
      · exact .inr (by omega)
theorem dst_up1 {n : Nat} {s : Int} (h : 0 ≤ dst y found n s) : dst y found (n + 1) s = dst y found n s := by
  rw [dst]
  rw [if_neg]
  simp only [Bool.and_eq_true, decide_eq_true_eq]
  omega
theorem dst_up {n : Nat} {s : Int} (h : 0 ≤ dst y found n s) : ∀ j, dst y found (n + j) s = dst y found n s
  | 0 => rfl
  | j + 1 => by
    have ih := dst_up h j
    rw [← Nat.add_assoc, dst_up1 (by omega), ih]
theorem dst_le {n m : Nat} {s : Int} (h : 0 ≤ dst y found n s) (hm : n ≤ m) : dst y found m s = dst y found n s := by
  obtain ⟨j, rfl⟩ : ∃ j, m = n + j := ⟨m - n, by omega⟩
  exact dst_up h j
/-- A value was found in its own round. -/
theorem dst_at : ∀ (n e : Nat) (s : Int), dst y found n s = e → dst y found e s = e ∧ e ≤ n
  | 0, e, s, h => by
    have h2 := h
    unfold dst at h2
    split at h2
    · have : e = 0 := by omega
      subst this
      exact ⟨h, Nat.le_refl _⟩
    · omega
  | n + 1, e, s, h => by
    have h2 := h
    rw [dst] at h2
    split at h2
    · have : e = n + 1 := by omega
      subst this
      exact ⟨h, Nat.le_refl _⟩
    · obtain ⟨h3, h4⟩ := dst_at n e s h2
      exact ⟨h3, by omega⟩
theorem dst_in : ∀ (n : Nat) (s : Int), 0 ≤ dst y found n s → s ∈ reachB y
  | 0, s, h => by
    unfold dst at h
    split at h
    · rename_i h2
      exact (hasI_iff _ _).1 (Bool.and_eq_true_iff.1 h2).1
    · omega
  | n + 1, s, h => by
    rw [dst] at h
    split at h
    · rename_i h2
      exact (hasI_iff _ _).1 (Bool.and_eq_true_iff.1 (Bool.and_eq_true_iff.1 h2).2).1
    · exact dst_in n s h
theorem dst_zero {n : Nat} {s : Int} (h : dst y found n s = 0) : found s = true := by
  have h0 := (dst_at n 0 s h).1
  unfold dst at h0
  split at h0
  · rename_i h2
    exact (Bool.and_eq_true_iff.1 h2).2
  · cases h0
/-- A value that is not 0 has a next one. -/
theorem dst_next {n d : Nat} {s : Int} (h : dst y found n s = ((d + 1 : Nat) : Int)) : ∃ k, k < y.w.length ∧ freeS y s k = true ∧ dst y found n (nextS y s k) = d := by
  obtain ⟨h1, h2⟩ := dst_at n _ s h
  rw [dst] at h1
  split at h1
  · rename_i h3
    obtain ⟨k, hk, hq⟩ := List.any_eq_true.1 (Bool.and_eq_true_iff.1 (Bool.and_eq_true_iff.1 h3).2).2
    obtain ⟨hf, hd⟩ := Bool.and_eq_true_iff.1 hq
    have hd := eq_of_beq hd
    exact ⟨k, List.mem_range.1 hk, hf, by rw [dst_le (n := d) (by omega) (by omega), hd]⟩
  · rcases dst_rng (y := y) (found := found) d s with h4 | h4 <;> omega
theorem run_cons {s t i : Int} {r : List Int} (h : runS y s (i :: r) = some t) : ∃ k : Nat, i = k ∧ k < y.w.length ∧ freeS y s k = true ∧ runS y (nextS y s k) r = some t := by
  simp only [runS] at h
  split at h
  · rename_i hc
    simp only [Bool.and_eq_true, decide_eq_true_eq] at hc
    obtain ⟨⟨h0, h1⟩, hf⟩ := hc
    obtain ⟨k, rfl⟩ := Int.eq_ofNat_of_zero_le h0
    exact ⟨k, rfl, by omega, hf, h⟩
  · cases h
theorem run_cons_of {s t : Int} {k : Nat} {r : List Int} (hk : k < y.w.length) (hf : freeS y s k = true) (h : runS y (nextS y s k) r = some t) : runS y s ((k : Int) :: r) = some t := by
  simp only [runS]
  rw [if_pos]
  · exact h
  · simp only [Bool.and_eq_true, decide_eq_true_eq]
    exact ⟨⟨by omega, by omega⟩, hf⟩
theorem dst_least : ∀ (ms : List Int) (n : Nat) (s t : Int), s ∈ reachB y → runS y s ms = some t → found t = true → ms.length ≤ n → 0 ≤ dst y found n s ∧ dst y found n s ≤ ms.length
  | [], n, s, t, hs, hr, hf, _ => by
    simp only [runS, Option.some.injEq] at hr
    subst hr
    have h0 : dst y found 0 s = 0 := by
      unfold dst
      rw [if_pos]
      simp only [Bool.and_eq_true]
      exact ⟨(hasI_iff _ _).2 hs, hf⟩
    have := dst_le (y := y) (found := found) (n := 0) (m := n) (s := s) (by omega) (by omega)
    simp
    omega
  | i :: r, n, s, t, hs, hr, hf, hl => by
    obtain ⟨k, rfl, hk, hfr, hr2⟩ := run_cons hr
    simp only [List.length_cons] at hl ⊢
    obtain ⟨m, rfl⟩ : ∃ m, n = m + 1 := ⟨n - 1, by omega⟩
    obtain ⟨g0, g1⟩ := dst_least r m _ t (reach_step hs hk hfr) hr2 hf (by omega)
    obtain ⟨e, he⟩ := Int.eq_ofNat_of_zero_le g0
    obtain ⟨h1, h2⟩ := dst_at m e _ he
    by_cases hc : 0 ≤ dst y found e s
    · have h3 := dst_le (y := y) (found := found) (n := e) (m := m + 1) hc (by omega)
      have := dst_rng (y := y) (found := found) e s
      omega
    · have h3 : dst y found (e + 1) s = ((e + 1 : Nat) : Int) := by
        rw [dst, if_pos]
        simp only [Bool.and_eq_true, decide_eq_true_eq, List.any_eq_true, List.mem_range]
        exact ⟨by omega, (hasI_iff _ _).2 hs, k, hk, hfr, by rw [h1]; simp⟩
      have h4 := dst_le (y := y) (found := found) (n := e + 1) (m := m + 1) (s := s) (by omega) (by omega)
      omega
theorem dst_path : ∀ (d M : Nat) (s : Int), dst y found M s = d → ∃ ms t, runS y s ms = some t ∧ found t = true ∧ ms.length = d
  | 0, M, s, h => ⟨[], s, rfl, dst_zero h, rfl⟩
  | d + 1, M, s, h => by
    obtain ⟨k, hk, hf, hd⟩ := dst_next h
    obtain ⟨ms, t, h1, h2, h3⟩ := dst_path d M _ hd
    exact ⟨(k : Int) :: ms, t, run_cons_of hk hf h1, h2, by simp [h3]⟩
theorem find_first {N : Nat} {p : Nat → Bool} {j : Nat} (hj : j < N) (hp : p j = true) : ∃ k, (List.range N).find? p = some k ∧ k ≤ j ∧ k < N ∧ p k = true ∧ ∀ i, i < k → p i = false := by
  cases h : (List.range N).find? p with
  | none =>
    have := List.find?_eq_none.1 h j (List.mem_range.2 hj)
    exact absurd hp this
  | some k =>
    have hk := List.find?_some h
    have hm := List.mem_range.1 (List.mem_of_find?_eq_some h)
    have hmin : ∀ i, i < k → p i = false := by
      intro i hi
      obtain ⟨_, l1, l2, e, hn⟩ := List.find?_eq_some_iff_append.1 h
      have hi2 : i ∈ l1 := by
        have hl : l1.length = k := by
          have h1 : (List.range N)[l1.length]? = some k := by rw [e]; simp
          have h2 : l1.length < N := by
            have := congrArg List.length e
            simp at this
            omega
          rw [List.getElem?_range h2] at h1
          exact Option.some.inj h1
        have h1 : (List.range N)[i]? = some i := List.getElem?_range (by omega)
        rw [e, List.getElem?_append_left (by omega)] at h1
        exact List.mem_of_getElem? h1
      have := hn i hi2
      simpa using this
    refine ⟨k, rfl, ?_, hm, hk, hmin⟩
    rcases Nat.lt_or_ge j k with h1 | h1
    · have := hmin j h1
      rw [hp] at this
      cases this
    · exact h1
/-- The way by the distances is a least one. -/
theorem ordG_ok (M : Nat) : ∀ (d : Nat) (s : Int), dst y found M s = d → ∃ t, runS y s (ordG y found M d s) = some t ∧ found t = true ∧ (ordG y found M d s).length = d ∧ ∀ ms u, runS y s ms = some u → found u = true → sleL (ordG y found M d s) ms
  | 0, s, h => by
    refine ⟨s, rfl, dst_zero h, rfl, fun ms u _ _ => ?_⟩
    cases ms with
    | nil => exact .inl rfl
    | cons a r => exact .inr (.inl (by simp [ordG]))
  | d + 1, s, h => by
    have hs := dst_in (y := y) (found := found) M s (by omega)
    have hM := (dst_at M _ s h).2
    obtain ⟨j, hj, hf, hd⟩ := dst_next h
    obtain ⟨k, hk, hkj, hkN, hp, hmin⟩ := find_first (p := fun k => freeS y s k && dst y found M (nextS y s k) == (d : Int)) hj (by simp [hf, hd])
    obtain ⟨hfk, hdk⟩ := Bool.and_eq_true_iff.1 hp
    have hdk := eq_of_beq hdk
    obtain ⟨t, h1, h2, h3, h4⟩ := ordG_ok M d _ hdk
    have e : ordG y found M (d + 1) s = (k : Int) :: ordG y found M d (nextS y s k) := by simp only [ordG, hk]
    rw [e]
    refine ⟨t, run_cons_of hkN hfk h1, h2, by simp [h3], fun ms u hr hu => ?_⟩
    have hlen : d + 1 ≤ ms.length := by
      rcases Nat.lt_or_ge M ms.length with hl | hl
      · omega
      · have := dst_least ms M s u hs hr hu hl
        omega
    rcases Nat.lt_or_ge (d + 1) ms.length with hl | hl
    · exact .inr (.inl (by simp [h3]; omega))
    cases ms with
    | nil => simp at hlen
    | cons i r =>
      simp only [List.length_cons] at hlen hl
      obtain ⟨q, rfl, hq, hfq, hrq⟩ := run_cons hr
      have hrs := reach_step hs hq hfq
      have g1 := dst_least r M _ u hrs hrq hu (by omega)
      obtain ⟨e1, he1⟩ := Int.eq_ofNat_of_zero_le g1.1
      have he2 : e1 = d := by
        obtain ⟨ms2, t2, r2, f2, l2⟩ := dst_path e1 M _ he1
        have := dst_least ((q : Int) :: ms2) M s t2 hs (run_cons_of hq hfq r2) f2 (by simp; omega)
        simp only [List.length_cons] at this
        omega
      subst he2
      have hkq : k ≤ q := by
        rcases Nat.lt_or_ge q k with h5 | h5
        · have := hmin q h5
          simp [hfq, he1] at this
        · exact h5
      rcases Nat.lt_or_ge k q with h5 | h5
      · exact .inr (.inr ⟨by simp [h3]; omega, .inl (by omega)⟩)
      · obtain rfl : k = q := by omega
        rcases h4 r u hrq hu with h6 | h6
        · exact .inl (by rw [h6])
        · rcases h6 with h6 | ⟨h6, h7⟩
          · exact .inr (.inl (by simp; omega))
          · exact .inr (.inr ⟨by simp [h6], .inr ⟨rfl, h7⟩⟩)
theorem y0_reach (y : Yd) : y0 y ∈ reachB y := (reachB_ok y).st
theorem order_some {p : Pl} (h : (searchL y found).2 = some p) : dst y found (2 ^ y.w.length - 1) (y0 y) = p.m.length ∧ ordG y found (2 ^ y.w.length - 1) p.m.length (y0 y) = p.m := by
  obtain ⟨h1, h2, h3, h4⟩ := search_some h
  obtain ⟨g1, g2⟩ := dst_least p.m (2 ^ y.w.length - 1) _ _ (y0_reach y) h1 h2 (by omega)
  obtain ⟨d, hd⟩ := Int.eq_ofNat_of_zero_le g1
  obtain ⟨t, r1, r2, r3, r4⟩ := ordG_ok _ d _ hd
  have e := (h4 _ _ r1 r2).antisymm (r4 _ _ h1 h2)
  have el : d = p.m.length := by rw [e, r3]
  subst el
  exact ⟨hd, e.symm⟩
theorem order_none (h : (searchL y found).2 = none) (M : Nat) : dst y found M (y0 y) = -1 := by
  obtain ⟨_, h1⟩ := search_none h
  rcases dst_rng (y := y) (found := found) M (y0 y) with h2 | h2
  · exact h2
  · obtain ⟨d, hd⟩ := Int.eq_ofNat_of_zero_le h2.1
    obtain ⟨ms, t, r1, r2, _⟩ := dst_path d M _ hd
    have := h1 t (run_reach ms t r1)
    rw [r2] at this
    cases this
end
end Go.Proofs.YtphlojgmfkgeiaaGreatDoor
