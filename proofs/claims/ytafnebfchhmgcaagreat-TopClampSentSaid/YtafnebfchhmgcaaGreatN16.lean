/- What the law TopClampRecorded needs beside its walk. -/
import Derived.Test.YtafnebfchhmgcaaGreatN14
import Derived.Test.YtafnebfchhmgcaaGreatN15
import Derived.Test.YtafnebfchhmgcaaGreatDB
import Derived.Test.YtafnebfchhmgcaaGreatR5
namespace Go.Proofs.YtafnebfchhmgcaaGreat
open Go Go.RowKit Go.Sort Go.Shelf
set_option linter.unusedSimpArgs false
set_option linter.unusedVariables false
attribute [local go_sem] cell_if frozen_if grow_cell
section
variable {P : Program} {ops : Array Oper} {md : Region.Mode} {Q : Exit → Act → World → Prop} {w0 : World} {X : List Nat}
/-- Three are ready: each may come first. -/
theorem anyB_three {fuel i j k : Nat} {listed : Array Bool} {a : Act} {w1 : World} {o o' o'' : Oper} (hr : Region.ready md ops listed = [i, j, k]) (ho : ops[i]? = some o) (hg : o.guard = none) (ho' : ops[j]? = some o') (hg' : o'.guard = none) (ho'' : ops[k]? = some o'') (hg'' : o''.guard = none)
    (h : ∀ w, Below w1.heap.size w1 w → ∀ K : Act → World → Prop, (∀ a' w', (Ex X w0 w' ∧ anyB P md ops Q X w0 fuel (listed.setIfInBounds i true) a' w') → K a' w') → o.wp P a w K Q)
    (h' : ∀ w, Below w1.heap.size w1 w → ∀ K : Act → World → Prop, (∀ a' w', (Ex X w0 w' ∧ anyB P md ops Q X w0 fuel (listed.setIfInBounds j true) a' w') → K a' w') → o'.wp P a w K Q)
    (h'' : ∀ w, Below w1.heap.size w1 w → ∀ K : Act → World → Prop, (∀ a' w', (Ex X w0 w' ∧ anyB P md ops Q X w0 fuel (listed.setIfInBounds k true) a' w') → K a' w') → o''.wp P a w K Q) : anyB P md ops Q X w0 (fuel + 1) listed a w1 := by
  refine ⟨fun h0 => (by rw [hr] at h0; cases h0), fun k hk w hw => ?_⟩
  rw [hr] at hk
  simp only [List.mem_cons, List.not_mem_nil, or_false] at hk
  rcases hk with rfl | rfl | rfl
  · exact wpOp_plain ho hg (h w hw _ (fun _ _ hh => hh))
  · exact wpOp_plain ho' hg' (h' w hw _ (fun _ _ hh => hh))
  · exact wpOp_plain ho'' hg'' (h'' w hw _ (fun _ _ hh => hh))
end
/-- A log: its row, and the rows in it. -/
structure LgS (base : Nat) (v : Value) (vs : List Value) (lg : List (List Int)) (W : World) : Prop where
  out : W.ownsRow base 51 1 v lg.length vs
  inn : ∀ (i : Nat) (u : Value), vs[i]? = some u → ∃ l, lg[i]? = some l ∧ W.ownsRow base 49 1 u l.length (smps l)
theorem LgS.kept {base : Nat} {v : Value} {vs : List Value} {lg : List (List Int)} {W W' : World} (h : LgS base v vs lg W) (hb : Below W.heap.size W W') : LgS base v vs lg W' :=
  ⟨own_kept h.out hb, fun i u hu => let ⟨l, h1, h2⟩ := h.inn i u hu; ⟨l, h1, own_kept h2 hb⟩⟩
theorem LgS.at_ {base : Nat} {A : Option Addr} {c : Nat} {vs : List Value} {lg : List (List Int)} {W : World} {n : Nat} (h : LgS base (.slice A n c) vs lg W) (hn : n = lg.length) {i : Nat} (hi : i < lg.length) :
    ∃ b o Au cu, A = some ⟨b, o, none⟩ ∧ b < W.heap.size ∧ W.cell? ⟨b, o + i, none⟩ = some (.slice Au (lg[i]).length cu) ∧ Reads W W.heap.size 1 Au (lg[i]).length (smps lg[i]) := by
  subst hn
  obtain ⟨A', c', e, _, _, hr⟩ := own_form h.out
  cases e
  obtain ⟨b, o, u, rfl, hb, hu, hc⟩ := hr.at_ (k := i) hi
  obtain ⟨l, e1, e2⟩ := h.inn i u hu
  rw [List.getElem?_eq_getElem hi] at e1
  cases e1
  obtain ⟨Au, cu, rfl, _, _, hr2⟩ := own_form e2
  exact ⟨b, o, Au, cu, rfl, hb, hc, hr2⟩
theorem LgS.nil (base : Nat) (W : World) : LgS base (.slice none 0 0) [] [] W := ⟨World.ownsRow_nil _ _ _ _, fun i u hu => by simp at hu⟩
theorem LgS.app {base : Nat} {v v' u : Value} {vs : List Value} {lg : List (List Int)} {r : List Int} {W W' : World} (h : LgS base v vs lg W) (ho : W'.ownsRow base 51 1 v' (lg.length + 1) (vs ++ [u])) (hk : ∀ k t' c, Blk W k t' c → v.ownBlock ≠ some k → Blk W' k t' c) (hu : W.ownsRow base 49 1 u r.length (smps r)) : LgS base v' (vs ++ [u]) (lg ++ [r]) W' := by
  have hl : vs.length = lg.length := by simpa using h.out.1
  have hrow : ∀ {x : Value} {n : Nat} {xs : List Value}, W.ownsRow base 49 1 x n xs → W'.ownsRow base 49 1 x n xs := fun hx => row_same hx fun j c hj => hk _ _ _ hj (own_ne h.out hj (by decide))
  refine ⟨by rw [List.length_append]; exact ho, fun i x hx => ?_⟩
  by_cases hi : i < vs.length
  · rw [List.getElem?_append_left hi] at hx
    obtain ⟨l, e1, e2⟩ := h.inn i x hx
    exact ⟨l, by rw [List.getElem?_append_left (by omega)]; exact e1, hrow e2⟩
  · rw [List.getElem?_append_right (by omega)] at hx
    have hi2 : i = vs.length := by
      have := (List.getElem?_eq_some_iff.1 hx).1
      simp at this
      omega
    subst hi2
    simp at hx
    subst hx
    exact ⟨r, by rw [hl, List.getElem?_append_right (by omega)]; simp, hrow hu⟩
theorem log_ok {w w' : World} {lg : List (List Int)} {n : Nat} {e : Ending} (h : LogRes w 0 lg e w') (hn : lg.length = n) : ∃ A c vs, e = .returned (.tuple #[.slice A n c, .int .i64 0]) ∧ LgS w.heap.size (.slice A n c) vs lg w' ∧ Below w.heap.size w w' := by
  obtain ⟨v, vs, rfl, ho, _, hin, hb⟩ := h
  obtain ⟨A, c, rfl, _, _, _⟩ := own_form ho
  subst hn
  exact ⟨A, c, vs, rfl, ⟨ho, hin⟩, hb⟩
theorem log_no {w w' : World} {lg : List (List Int)} {er : Int} {e : Ending} (h : LogRes w er lg e w') (hn : er ≠ 0) : e = .returned (.tuple #[.slice none 0 0, .int .i64 er]) ∧ Below w.heap.size w w' := by
  obtain ⟨v, vs, rfl, _, hz, _, hb⟩ := h
  rw [hz hn]
  exact ⟨rfl, hb⟩
/-- The law's own arm. -/
def OwnC (w : World) (a : Ar) (n : Nat) (e : Ending) (w' : World) : Prop := ∃ A c, e = .returned (.agg #[.slice A n c, .int .i64 a.lo, .int .i64 a.hi, .int .i64 a.cur, .int .i64 a.lim]) ∧ MsAt w' w'.heap.size A n a.m ∧ n ≤ c ∧ Below w.heap.size w w'
theorem clampArm_r (B : Nat) (A : Option Addr) (n c : Nat) (a : Ar) (w : World) (hM : MsAt w B A n a.m) (hB : B ≤ w.heap.size) (hn : n ≤ 1000) : Calls Tryz.prog 9 #[.agg #[.slice A n c, .int .i64 a.lo, .int .i64 a.hi, .int .i64 a.cur, .int .i64 a.lim]] w (OwnC w a n) := by
  have hl := (md_at hM).1
  refine (clampArm_any B A n c a w hM hB hn).mono ?_
  rintro e w' ⟨v, A', c', rfl, rfl, ho, hc, hb⟩
  obtain ⟨A2, c2, e2, _, _, hr⟩ := own_form ho
  cases e2
  subst hl
  exact ⟨A', c', rfl, hr, hc, hb⟩
theorem step_no {w w' : World} {a : Ar} {o : Od} {er : Int} {e : Ending} (h : StepRes w a o er e w') (hn : er ≠ 0) : e = .returned (.tuple #[.agg #[.slice none 0 0, .int .i64 0, .int .i64 0, .int .i64 0, .int .i64 0], .int .i64 er]) ∧ Below w.heap.size w w' := by
  obtain ⟨hb, ⟨h0, _⟩ | ⟨_, rfl⟩⟩ := h
  · exact absurd h0 hn
  · exact ⟨rfl, hb⟩
theorem goTo_or : ∀ (l : List Od) (a : Ar), (∃ b, goTo a l = some b) ∨ ∃ k b, ∃ hk : k < l.length, goTo a (l.take k) = some b ∧ stepE b l[k] ≠ 0
  | [], a => .inl ⟨a, rfl⟩
  | o :: r, a => by
    by_cases h0 : stepE a o = 0
    · rcases goTo_or r (stepA a o) with ⟨b, hb⟩ | ⟨k, b, hk, h1, h2⟩
      · exact .inl ⟨b, by show (if stepE a o = 0 then _ else none) = _; rw [if_pos h0]; exact hb⟩
      · exact .inr ⟨k + 1, b, by simp; omega, by show (if stepE a o = 0 then goTo (stepA a o) (r.take k) else none) = _; rw [if_pos h0]; exact h1, h2⟩
    · exact .inr ⟨0, a, by simp, rfl, h0⟩
theorem fine_of {a : Ar} {l : List Od} (h : fineB a l = true) : shortA a = true ∧ a.m.length ≤ 8 ∧ armE a = 0 ∧ l.length ≤ 8 ∧ rordsE l = 0 := by
  unfold fineB at h
  simp only [Bool.and_eq_true, decide_eq_true_eq] at h
  exact ⟨h.1, h.2.1, h.2.2.1, h.2.2.2.1, h.2.2.2.2⟩
theorem run_at {a b : Ar} {l : List Od} {k : Nat} (hk : k < l.length) (h : goTo a (l.take k) = some b) (h2 : stepE b l[k] ≠ 0) : runGo 0 a l = (nilA, k, stepE b l[k]) := by
  have := runGo_no (r := l.drop (k + 1)) h h2
  rw [← List.drop_eq_getElem_cons hk, List.take_append_drop, List.length_take, Nat.min_eq_left (Nat.le_of_lt hk)] at this
  exact this
theorem run_ok {a b : Ar} {l : List Od} {n : Nat} {w w' : World} {e : Ending} (hO : ordsE a l = 0) (hg : goTo a l = some b) (h : RunRes w a l n e w') : ∃ g, e = .returned (.tuple #[.agg #[.slice (some ⟨g, 0, none⟩) n n, .int .i64 a.lo, .int .i64 a.hi, .int .i64 a.cur, .int .i64 a.lim], .int .i64 0, .int .i64 0]) ∧ Blk w' g 115 (mds b.m).toArray ∧ Below w.heap.size w w' := by
  obtain ⟨hb, ⟨b', g, _, hg', he, hk⟩ | ⟨h1, _⟩ | ⟨j, b', hj, _, hg', hne, rfl⟩⟩ := h
  · rw [hg] at hg'
    cases hg'
    exact ⟨g, he, hk, hb⟩
  · exact absurd hO h1
  · have := run_at hj hg' hne
    rw [runGo_all hg] at this
    injection this with _ h2
    injection h2 with _ h3
    exact absurd h3.symm hne
theorem run_err {a : Ar} {l : List Od} {n k : Nat} {er : Int} {w w' : World} {e : Ending} (hO : ordsE a l = 0) (hr : runGo 0 a l = (nilA, k, er)) (h0 : er ≠ 0) (h : RunRes w a l n e w') : e = .returned (.tuple #[.agg #[.slice none 0 0, .int .i64 0, .int .i64 0, .int .i64 0, .int .i64 0], .int .i64 (k : Int), .int .i64 er]) ∧ Below w.heap.size w w' := by
  obtain ⟨hb, ⟨b, g, _, hg, _⟩ | ⟨h1, _⟩ | ⟨j, b, hj, _, hg, hne, rfl⟩⟩ := h
  · rw [runGo_all hg] at hr
    injection hr with _ h2
    injection h2 with _ h3
    exact absurd h3.symm h0
  · exact absurd hO h1
  · rw [run_at hj hg hne] at hr
    injection hr with _ h2
    injection h2 with h3 h4
    rw [h4, h3]
    exact ⟨rfl, hb⟩
theorem wrk_err {a : Ar} {l : List Od} {k : Nat} {er : Int} (hO : ordsE a l = 0) (hr : runGo 0 a l = (nilA, k, er)) : wrkE a l = er := by
  unfold wrkE folE
  rw [hO, or0_yes, hr]
theorem ords_take {a : Ar} {l : List Od} (k : Nat) (hE : armE a = 0) (hl : l.length ≤ 256) (ho : ∀ o ∈ l, orderE o = 0) : ordsE a (l.take k) = 0 := by
  refine ords_of hE ?_
  unfold rordsE
  rw [if_neg (by rw [List.length_take]; omega)]
  have : ∀ l : List Od, (∀ o ∈ l, orderE o = 0) → firstE (l.map orderE) = 0 := by
    intro l
    induction l with
    | nil => intro _; rfl
    | cons x r ih =>
      intro h
      rw [List.map_cons, firstE_cons]
      exact or0_of (h x List.mem_cons_self) (ih fun o ho => h o (List.mem_cons_of_mem _ ho))
  exact this _ fun o h => ho o (List.mem_of_mem_take h)
theorem reads_ods {w : World} {B n k : Nat} {A : Option Addr} {l : List Od} (h : Reads w B 2 A n (ods l)) (hk : k ≤ n) : Reads w B 2 A k (ods (l.take k)) := by
  obtain ⟨h1, h2⟩ := h
  have hl : l.length = n := by
    have e := h1
    unfold ods at e
    rw [flat_len (f := Od.cells) (m := 2) (fun _ => rfl)] at e
    omega
  have ht : ods l = ods (l.take k) ++ ods (l.drop k) := by
    unfold ods
    rw [← List.flatMap_append, List.take_append_drop]
  have hlen : (ods (l.take k)).length = k * 2 := by
    unfold ods
    rw [flat_len (f := Od.cells) (m := 2) (fun _ => rfl), List.length_take]
    omega
  refine ⟨hlen, fun hpos => ?_⟩
  obtain ⟨b, o, e, hb, hc⟩ := h2 (by omega)
  refine ⟨b, o, e, hb, fun j u hu => hc j u ?_⟩
  rw [ht, List.getElem?_append_left (by rw [hlen]; have := (List.getElem?_eq_some_iff.1 hu).1; rw [hlen] at this; exact this)]
  exact hu
theorem ods_kept {W W' : World} {A : Option Addr} {n : Nat} {l : List Od} (h : Reads W W.heap.size 2 A n (ods l)) (hb : Below W.heap.size W W') : Reads W' W'.heap.size 2 A n (ods l) := (h.below hb).more hb.size
theorem recQ_in {l : List Od} {a b : Ar} (hE : armE a = 0) (ho : ∀ o ∈ l, orderE o = 0) (h : goTo a l = some b) (k : Nat) : ∀ z ∈ recQ a l k, 0 ≤ z ∧ z ≤ 16384 := by
  intro z hz
  unfold recQ at hz
  obtain ⟨r, hr, rfl⟩ := List.mem_map.1 hz
  obtain ⟨i, hi, e⟩ := List.mem_iff_getElem.1 hr
  rw [recL_len] at hi
  obtain ⟨c, h1, h2⟩ := recL_at h (i := i) (by omega)
  rw [List.getElem?_eq_getElem (by rw [recL_len]; exact hi)] at h2
  have e2 : r = c.m.map Md.q := by rw [← e]; exact Option.some.inj h2
  rw [e2]
  by_cases hk : k < c.m.length
  · rw [List.getElem?_map, List.getElem?_eq_getElem hk]
    exact (fit_of (goTo_ok hE (fun x hx => ho x (List.mem_of_mem_take hx)) h1).1).q _ (List.getElem_mem hk)
  · rw [List.getElem?_eq_none (by simp; omega)]
    exact ⟨Int.le_refl _, by decide⟩
theorem logL_rows : ∀ {l : List Od} {a : Ar} {n : Nat}, a.m.length = n → ∀ r ∈ logL a l, r.length = n
  | [], _, _, _, r, hr => by cases hr
  | o :: t, a, n, hn, r, hr => by
    have hs : (stepA a o).m.length = n := by
      show (stepMs _ _ _ _).length = n
      rw [stepMs_len, hn]
    rcases List.mem_cons.1 hr with rfl | hr
    · rw [List.length_map, hs]
    · exact logL_rows hs r hr
theorem recQ_zero (a : Ar) (l : List Od) {k : Nat} (h : k < a.m.length) : (recQ a l k)[0]? = some (a.m[k]).q := by
  unfold recQ recL
  simp [h]
theorem recQ_succ (a : Ar) (l : List Od) {j k : Nat} (h : j < (logL a l).length) (hk : k < (logL a l)[j].length) : (recQ a l k)[j + 1]? = some ((logL a l)[j][k]) := by
  unfold recQ recL
  simp [h, hk]
theorem take_next {l : List Int} {j : Nat} {z : Int} (h : l[j]? = some z) : l.take (j + 1) = l.take j ++ [z] := by
  obtain ⟨hj, rfl⟩ := List.getElem?_eq_some_iff.1 h
  exact List.take_succ_eq_append_getElem hj
theorem smps_snoc (l : List Int) (z : Int) : smps (l ++ [z]) = smps l ++ [.float .f32 (smp z)] := by unfold smps; rw [List.map_append]; rfl
theorem smps_map (l : List Int) : smps l = (l.map smp).map (Value.float .f32) := by unfold smps; rw [List.map_map]; rfl
theorem rec_ok {l : List Od} {a b : Ar} {k : Nat} (hE : armE a = 0) (ho : ∀ o ∈ l, orderE o = 0) (h : goTo a l = some b) (hl : l.length ≤ 256) (hk : k < a.m.length) : RecOk (a.m[k]).n ((recQ a l k).map smp) := by
  have hin := recQ_in hE ho h k
  refine ⟨(fit_of hE).nm _ (List.getElem_mem hk), fun x hx => ?_, by rw [List.length_map, recQ_len]; omega, fun x hx => ?_⟩
  · obtain ⟨z, hz, rfl⟩ := List.mem_map.1 hx
    exact (smp_ok (hin z hz)).1
  · obtain ⟨z, hz, rfl⟩ := List.mem_map.1 hx
    exact (smp_ok (hin z hz)).2.2
theorem first_smps {l : List Int} (h : ∀ z ∈ l, 0 ≤ z ∧ z ≤ 16384) : firstE ((l.map smp).map sampE) = 0 := by
  induction l with
  | nil => rfl
  | cons x r ih =>
    rw [List.map_cons, List.map_cons, firstE_cons]
    exact or0_of (smp_ok (h x List.mem_cons_self)).1 (ih fun z hz => h z (List.mem_cons_of_mem _ hz))
/-- The records of the first modules. -/
def recs (a : Ar) (l : List Od) (q : Nat) : List (List Int) := (List.range q).map (recQ a l)
theorem recs_len (a : Ar) (l : List Od) (q : Nat) : (recs a l q).length = q := by simp [recs]
theorem recs_succ (a : Ar) (l : List Od) (q : Nat) : recs a l (q + 1) = recs a l q ++ [recQ a l q] := by simp [recs, List.range_succ]
theorem recs_at (a : Ar) (l : List Od) {q n : Nat} (h : q < n) (h' : q < (recs a l n).length) : (recs a l n)[q] = recQ a l q := by simp [recs]
theorem ms_ne {W : World} {B n b : Nat} {A : Option Addr} {m : List Md} {t : TypeId} {cs : Array Value} (h : MsAt W B A n m) (hk : Blk W b t cs) (hs : ∀ (i : Nat) (s : ByteArray), cs[i]? ≠ some (.string s)) : ∀ b' o s', A = some ⟨b', o, s'⟩ → 0 < n → b' ≠ b := by
  rintro b' o s' rfl h0 rfl
  obtain ⟨hl, hat⟩ := md_at h
  obtain ⟨b2, o2, e, _, z0, _⟩ := hat 0 (by omega)
  cases e
  rw [hk.cell] at z0
  exact hs _ _ z0
theorem ms_set {W : World} {B n b : Nat} {A : Option Addr} {m : List Md} (h : MsAt W B A n m) (hne : ∀ b' o s', A = some ⟨b', o, s'⟩ → 0 < n → b' ≠ b) (i : Nat) (u : Value) : MsAt (W.setCell ⟨b, i, none⟩ u) B A n m := by
  refine ⟨h.1, fun h0 => ?_⟩
  obtain ⟨b', o, rfl, hb, hc⟩ := h.2 h0
  refine ⟨b', o, rfl, hb, fun j v hv => ?_⟩
  have h1 := hc j v hv
  unfold World.cell? at h1 ⊢
  rw [Below.heap_setCell W ⟨b, i, none⟩ u b' (hne _ _ _ rfl h0)]
  exact h1
theorem zero_cells : ∀ (i : Nat) (s : ByteArray), (#[.slice none 0 0, .int .i64 0, .int .i64 0, .int .i64 0, .int .i64 0] : Array Value)[i]? ≠ some (.string s) := fun i s e => by
  match i, e with
  | 0, e => simp at e
  | 1, e => simp at e
  | 2, e => simp at e
  | 3, e => simp at e
  | 4, e => simp at e
  | i + 5, e => simp at e
theorem ms_put5 {W : World} {n b : Nat} {A : Option Addr} {m : List Md} {t : TypeId} {v0 v1 v2 v3 v4 : Value} (h : MsAt W W.heap.size A n m) (hk : Blk W b t #[.slice none 0 0, .int .i64 0, .int .i64 0, .int .i64 0, .int .i64 0]) :
    MsAt (((((W.setCell ⟨b, 0, none⟩ v0).setCell ⟨b, 1, none⟩ v1).setCell ⟨b, 2, none⟩ v2).setCell ⟨b, 3, none⟩ v3).setCell ⟨b, 4, none⟩ v4) (((((W.setCell ⟨b, 0, none⟩ v0).setCell ⟨b, 1, none⟩ v1).setCell ⟨b, 2, none⟩ v2).setCell ⟨b, 3, none⟩ v3).setCell ⟨b, 4, none⟩ v4).heap.size A n m := by
  have e5 : ∀ (V : World) (p : Addr) (u : Value), (V.setCell p u).heap.size = V.heap.size := fun V p u => by simp [World.setCell]
  have hne := ms_ne h hk (fun i s e => by
    match i, e with
    | 0, e => simp at e
    | 1, e => simp at e
    | 2, e => simp at e
    | 3, e => simp at e
    | 4, e => simp at e
    | i + 5, e => simp at e)
  rw [e5, e5, e5, e5, e5]
  exact ms_set (ms_set (ms_set (ms_set (ms_set h hne 0 v0) hne 1 v1) hne 2 v2) hne 3 v3) hne 4 v4
/-- A module's energy. -/
def enF (x : Md) : Int := if x.by_ then 0 else x.q * x.q
theorem sq_bd {z : Int} (h : 0 ≤ z ∧ z ≤ 16384) : 0 ≤ z * z ∧ z * z ≤ 268435456 := by
  have e := Int.natAbs_mul z z
  have h2 := Nat.mul_le_mul (show z.natAbs ≤ 16384 by omega) (show z.natAbs ≤ 16384 by omega)
  have h3 : 0 ≤ z * z := Int.mul_nonneg h.1 h.1
  omega
theorem enF_bd : ∀ {l : List Md}, (∀ x ∈ l, 0 ≤ x.q ∧ x.q ≤ 16384) → 0 ≤ sumI enF l ∧ sumI enF l ≤ 268435456 * (l.length : Int)
  | [], _ => ⟨by show (0 : Int) ≤ 0; omega, by show (0 : Int) ≤ _; simp⟩
  | x :: r, h => by
    have ih := enF_bd (l := r) fun y hy => h y (List.mem_cons_of_mem _ hy)
    have hx := sq_bd (h x List.mem_cons_self)
    have e : sumI enF (x :: r) = enF x + sumI enF r := sumI_cons _ _ _
    have h1 : 0 ≤ enF x ∧ enF x ≤ 268435456 := by
      unfold enF
      split
      · omega
      · exact hx
    rw [e, List.length_cons]
    omega
theorem ener_bd' {a : Ar} (h : Fit a) : 0 ≤ enerL a ∧ enerL a ≤ 4294967296 := by
  have h1 := enF_bd h.q
  have h2 := h.n16
  have e : enerL a = sumI enF a.m := rfl
  rw [e]
  omega
/-- What stays while the records are made. -/
structure RcI (w : World) (A A2 : Option Addr) (n c n2 : Nat) (a : Ar) (l : List Od) (Al : Option Addr) (cl : Nat) (vl : List Value) (base : Nat) (W : World) : Prop where
  bA : Blk W w.heap.size 26 #[.slice A n c, .int .i64 a.lo, .int .i64 a.hi, .int .i64 a.cur, .int .i64 a.lim]
  rM : MsAt W W.heap.size A n a.m
  rO : Reads W W.heap.size 2 A2 n2 (ods l)
  lg : LgS base (.slice Al n2 cl) vl (logL a l) W
  low : Below w.heap.size w W
theorem RcI.kept {w : World} {A A2 : Option Addr} {n c n2 : Nat} {a : Ar} {l : List Od} {Al : Option Addr} {cl : Nat} {vl : List Value} {base : Nat} {W W' : World} (h : RcI w A A2 n c n2 a l Al cl vl base W) (hb : Below W.heap.size W W') : RcI w A A2 n c n2 a l Al cl vl base W' :=
  ⟨h.bA.kept hb, ms_kept h.rM hb, ods_kept h.rO hb, h.lg.kept hb, h.low.trans (hb.mono h.low.size)⟩
end Go.Proofs.YtafnebfchhmgcaaGreat
