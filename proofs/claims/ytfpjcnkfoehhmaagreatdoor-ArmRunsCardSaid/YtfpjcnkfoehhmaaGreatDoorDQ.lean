/- The law ArmRuns. -/
import Derived.Test.YtfpjcnkfoehhmaaGreatDoorUA2
import Derived.Test.YtfpjcnkfoehhmaaGreatDoorRX
import Derived.Test.YtfpjcnkfoehhmaaGreatDoorRY
import Derived.Test.YtfpjcnkfoehhmaaGreatDoorDB
import Derived.Test.YtfpjcnkfoehhmaaGreatDoorDA
import Derived.Test.YtfpjcnkfoehhmaaGreatDoorCM
namespace Go.Proofs.YtfpjcnkfoehhmaaGreatDoor
open Go Go.RowKit Go.Sort Go.Shelf
set_option linter.unusedSimpArgs false
set_option linter.unusedVariables false
attribute [local go_sem] cell_if frozen_if grow_cell
/-- A log: its row, and the rows in it. -/
structure LgS (base : Nat) (v : Value) (vs : List Value) (lg : List (List Int)) (W : World) : Prop where
  out : W.ownsRow base 65 1 v lg.length vs
  inn : ∀ (i : Nat) (u : Value), vs[i]? = some u → ∃ l, lg[i]? = some l ∧ W.ownsRow base 75 1 u l.length (smps l)
theorem LgS.kept {base : Nat} {v : Value} {vs : List Value} {lg : List (List Int)} {W W' : World} (h : LgS base v vs lg W) (hb : Below W.heap.size W W') : LgS base v vs lg W' :=
  ⟨own_kept h.out hb, fun i u hu => let ⟨l, h1, h2⟩ := h.inn i u hu; ⟨l, h1, own_kept h2 hb⟩⟩
theorem LgS.at_ {base : Nat} {A : Option Addr} {c : Nat} {vs : List Value} {lg : List (List Int)} {W : World} {n : Nat} (h : LgS base (.slice A n c) vs lg W) (hn : n = lg.length) {i : Nat} (hi : i < lg.length) :
    ∃ b o Au cu, A = some ⟨b, o, none⟩ ∧ b < W.heap.size ∧ W.cell? ⟨b, o + i, none⟩ = some (.slice Au (lg[i]).length cu) ∧ Reads W W.heap.size 1 Au (lg[i]).length (smps lg[i]) := by
  subst hn
  obtain ⟨A', c', e, _, _, hr⟩ := own_form h.out
  cases e
  obtain ⟨b, o, u, rfl, hb, hu, hc⟩ := hr.at_ (k := i) hi
  obtain ⟨l, e1, e2⟩ := h.inn i u hu
  rw [List.getElem?_eq_getElem hi] at e1
  cases e1
  obtain ⟨Au, cu, rfl, _, _, hr2⟩ := own_form e2
  exact ⟨b, o, Au, cu, rfl, hb, hc, hr2⟩
theorem own_max {base : Nat} {v : Value} {vs : List Value} {lg : List (List Int)} {W : World} (h : LgS base v vs lg W) {i : Nat} (hi : i < lg.length) : (lg[i]).length ≤ maxLen := by
  have hl : vs.length = lg.length := by simpa using h.out.1
  have hiv : i < vs.length := by omega
  obtain ⟨l, e1, e2⟩ := h.inn i vs[i] (List.getElem?_eq_getElem hiv)
  rw [List.getElem?_eq_getElem hi] at e1
  cases e1
  obtain ⟨_, cu, _, h1, h2, _⟩ := own_form e2
  omega
theorem log_q : ∀ {l : List Od} {a : Ar}, armE a = 0 → (∀ o ∈ l, orderE o = 0) → folE a l = 0 → ∀ (i : Nat) (h : i < (logL a l).length), ∀ q ∈ (logL a l)[i], 0 ≤ q ∧ q ≤ 16384
  | [], a, _, _, _, i, h, _, _ => by simp [logL] at h
  | o :: r, a, hE, ho, hf, i, h, q, hq => by
    have h0 : stepE a o = 0 := by
      by_cases h0 : stepE a o = 0
      · exact h0
      · have e : folE a (o :: r) = stepE a o := by
          unfold folE
          show (if stepE a o = 0 then _ else (nilA, 0, stepE a o)).2.2 = _
          rw [if_neg h0]
        rw [e] at hf
        exact absurd hf h0
    have hE2 := step_ok hE (order_zero (ho o List.mem_cons_self)).1.1 h0
    have hrun : ∀ (l : List Od) (b : Ar) (k j : Nat), (runGo k b l).2.2 = (runGo j b l).2.2 := by
      intro l
      induction l with
      | nil => intro b k j; rfl
      | cons x t ih =>
        intro b k j
        show (if stepE b x = 0 then runGo (k + 1) (stepA b x) t else (nilA, k, stepE b x)).2.2 = (if stepE b x = 0 then runGo (j + 1) (stepA b x) t else (nilA, j, stepE b x)).2.2
        split
        · exact ih _ _ _
        · rfl
    have hf2 : folE (stepA a o) r = 0 := by
      unfold folE at hf ⊢
      have e : runGo 0 a (o :: r) = runGo 1 (stepA a o) r := if_pos h0
      rw [e] at hf
      rw [hrun r (stepA a o) 0 1]
      exact hf
    cases i with
    | zero =>
      have hq : q ∈ (stepA a o).m.map Md.q := hq
      obtain ⟨x, hx, rfl⟩ := List.mem_map.1 hq
      exact (fit_of hE2).q x hx
    | succ i =>
      have h2 : i < (logL (stepA a o) r).length := by simpa [logL] using h
      exact log_q hE2 (fun x hx => ho x (List.mem_cons_of_mem _ hx)) hf2 i h2 q hq
theorem ords_r (a : Ar) (l : List Od) : ordsE a l = firstE [armE a, rordsE l] := by
  unfold ordsE rordsE
  rw [firstE_cons, firstE_cons, firstE_cons, firstE_cons, firstE_nil]
  by_cases h2 : (256 : Int) < (l.length : Int)
  · rw [decide_eq_true h2, if_pos h2]
    unfold or0
    by_cases h : armE a = 0
    · simp [h, whenE]
    · simp [h, whenE]
  · rw [decide_eq_false h2, if_neg h2]
    unfold or0
    by_cases h : armE a = 0
    · simp [h, whenE]
    · simp [h, whenE]
def runA (a : Ar) (l : List Od) : Ar := if ordsE a l = 0 then (runGo 0 a l).1 else nilA
def runI (a : Ar) (l : List Od) : Int := if ordsE a l = 0 then ((runGo 0 a l).2.1 : Int) else 0
theorem run_all {a b : Ar} {l : List Od} {k : Nat} (hk : k < l.length) (h : goTo a (l.take k) = some b) (h2 : stepE b l[k] ≠ 0) : runGo 0 a l = (nilA, k, stepE b l[k]) := run_atR hk h h2
theorem run_uni {w w' : World} {a : Ar} {l : List Od} {n : Nat} {e : Ending} (hn : a.m.length = n) (hE : ordsE a l = 0 → armE a = 0 ∧ ∀ o ∈ l, orderE o = 0) (h : RunRes w a l n e w') :
    ∃ A c, e = .returned (.tuple #[.agg #[.slice A (runA a l).m.length c, .int .i64 (runA a l).lo, .int .i64 (runA a l).hi, .int .i64 (runA a l).cur, .int .i64 (runA a l).lim], .int .i64 (runI a l), .int .i64 (wrkE a l)]) ∧ MsAt w' w'.heap.size A (runA a l).m.length (runA a l).m ∧ Below w.heap.size w w' := by
  obtain ⟨hb, ⟨b, g, h0, hg, rfl, hk⟩ | ⟨h0, rfl⟩ | ⟨k, b, hk, h0, hg, hs, rfl⟩⟩ := h
  · obtain ⟨hA, ho⟩ := hE h0
    obtain ⟨_, hS⟩ := goTo_ok hA ho hg
    have e1 : runA a l = b := by unfold runA; rw [if_pos h0, runGo_all hg]
    have e2 : runI a l = 0 := by unfold runI; rw [if_pos h0, runGo_all hg]; rfl
    have e3 : wrkE a l = 0 := by unfold wrkE folE; rw [h0, or0_yes, runGo_all hg]
    have hl : b.m.length = n := hS.len.trans hn
    rw [e1, e2, e3, hl, hS.lo, hS.hi, hS.cur, hS.lim]
    exact ⟨_, _, rfl, (BlkArm.at (b := b) hk hl).more (Blk.lt hk), hb⟩
  · have e1 : runA a l = nilA := if_neg h0
    have e2 : runI a l = 0 := if_neg h0
    have e3 : wrkE a l = ordsE a l := by unfold wrkE; rw [or0_no h0]
    rw [e1, e2, e3]
    exact ⟨none, 0, rfl, ms_nil _ _, hb⟩
  · have hr := run_all hk hg hs
    have e1 : runA a l = nilA := by unfold runA; rw [if_pos h0, hr]
    have e2 : runI a l = (k : Int) := by unfold runI; rw [if_pos h0, hr]
    have e3 : wrkE a l = stepE b l[k] := by unfold wrkE folE; rw [h0, or0_yes, hr]
    rw [e1, e2, e3]
    exact ⟨none, 0, rfl, ms_nil _ _, hb⟩
theorem runA_len {a : Ar} {l : List Od} (ha : a.m.length ≤ 17) (hE : ordsE a l = 0 → armE a = 0 ∧ ∀ o ∈ l, orderE o = 0) : (runA a l).m.length ≤ 1000 := by
  unfold runA
  split
  · rename_i h0
    obtain ⟨hA, ho⟩ := hE h0
    have key : ∀ (l : List Od) (b : Ar) (k : Nat), b.m.length ≤ 17 → ((runGo k b l).1).m.length ≤ 17 := by
      intro l
      induction l with
      | nil => intro b k hb; exact hb
      | cons x t ih =>
        intro b k hb
        show ((if stepE b x = 0 then runGo (k + 1) (stepA b x) t else (nilA, k, stepE b x)).1).m.length ≤ 17
        split
        · exact ih _ _ (by rw [show (stepA b x).m.length = b.m.length from stepMs_len _ _ _ _]; exact hb)
        · exact Nat.zero_le _
    have := key l a 0 ha
    omega
  · exact Nat.zero_le _
set_option maxRecDepth 1000000 in
set_option maxHeartbeats 16000000 in
theorem runs_any (A A2 : Option Addr) (n c n2 c2 : Nat) (a : Ar) (l : List Od) (w : World) (hM : MsAt w w.heap.size A n a.m) (hn : n ≤ maxLen) (hnm : ∀ x ∈ a.m, x.n.size ≤ maxLen) (hO : Reads w w.heap.size 2 A2 n2 (ods l)) (hn2 : n2 ≤ maxLen) (hT : TabT w) :
    Calls Tryz.prog 4 #[.agg #[.slice A n c, .int .i64 a.lo, .int .i64 a.hi, .int .i64 a.cur, .int .i64 a.lim], .slice A2 n2 c2] w fun e w' => e = .returned (.bool true) ∧ Below w.heap.size w w' := by
  have hl := (md_at hM).1
  have hl2 := (od_at hO).1
  have HT := Lib.hid hT
  have HAw := Lib.hid (fun W (hW : Below w.heap.size w W) => awake_ok w W hT hW)
  have HSh := Lib.hid (fun W (hW : Below w.heap.size w W) => Short_any w.heap.size A n c a W (hM.below hW) hW.size hn)
  have HSo := Lib.hid (fun W => ShortOrders_any A2 n2 c2 W hn2)
  have hmx : maxLen = 9223372036854775807 := rfl
  rw [hmx] at hn hn2
  clear hmx hT
  cases hs : shortA a with
  | false =>
    rw [hs] at HSh
    clear hM hnm hl hs hO hl2
    go_enter Tryz.func4, Tryz.ntmps4
    go_wp2_with fail
    refine (HAw.out _ bl_).mono ?_
    rintro e w1 ⟨rfl, hb⟩
    have HA : Hid (Blk w1 (w.heap.size) 26 #[.slice A n c, .int .i64 a.lo, .int .i64 a.hi, .int .i64 a.cur, .int .i64 a.lim]) := Lib.hid bk_
    have HL : Hid (Below w.heap.size w w1) := Lib.hid bl_
    have hs1 := HL.out.size
    clear hb
    have cHA := HA.out.cell
    have lHA := HA.out.lt
    go_wp2_with fail
    refine (HSh.out _ HL.out).mono ?_
    rintro e w2 ⟨rfl, hb⟩
    clear cHA lHA
    have hs2 := hb.size
    have HL' := Lib.hid (HL.out.trans (hb.mono HL.out.size)); clear HL; have HL := HL'; clear HL'
    have HA' := Lib.hid (HA.out.kept hb); clear HA; have HA := HA'; clear HA'
    clear hb
    have cHA := HA.out.cell
    have lHA := HA.out.lt
    go_wp2_with fail
    refine (HAw.out _ HL.out).mono ?_
    rintro e w3 ⟨rfl, hb⟩
    clear cHA lHA
    have hs3 := hb.size
    have HL' := Lib.hid (HL.out.trans (hb.mono HL.out.size)); clear HL; have HL := HL'; clear HL'
    have HA' := Lib.hid (HA.out.kept hb); clear HA; have HA := HA'; clear HA'
    clear hb
    have cHA := HA.out.cell
    have lHA := HA.out.lt
    go_wp2_with fail
    go_ret
    exact ⟨rfl, HL.out⟩
  | true =>
    rw [hs] at HSh
    cases hs2 : shortO n2 with
    | false =>
      rw [hs2] at HSo
      clear hM hnm hl hs hO hl2 hs2
      go_enter Tryz.func4, Tryz.ntmps4
      go_wp2_with fail
      refine (HAw.out _ bl_).mono ?_
      rintro e w1 ⟨rfl, hb⟩
      have HA : Hid (Blk w1 (w.heap.size) 26 #[.slice A n c, .int .i64 a.lo, .int .i64 a.hi, .int .i64 a.cur, .int .i64 a.lim]) := Lib.hid bk_
      have HL : Hid (Below w.heap.size w w1) := Lib.hid bl_
      have hs1 := HL.out.size
      clear hb
      have cHA := HA.out.cell
      have lHA := HA.out.lt
      go_wp2_with fail
      refine (HSh.out _ HL.out).mono ?_
      rintro e w2 ⟨rfl, hb⟩
      clear cHA lHA
      have hs2 := hb.size
      have HL' := Lib.hid (HL.out.trans (hb.mono HL.out.size)); clear HL; have HL := HL'; clear HL'
      have HA' := Lib.hid (HA.out.kept hb); clear HA; have HA := HA'; clear HA'
      clear hb
      have cHA := HA.out.cell
      have lHA := HA.out.lt
      go_wp2_with fail
      refine (HSo.out _).mono ?_
      rintro e w3 ⟨rfl, hb⟩
      clear cHA lHA
      have hs3 := hb.size
      have HL' := Lib.hid (HL.out.trans (hb.mono HL.out.size)); clear HL; have HL := HL'; clear HL'
      have HA' := Lib.hid (HA.out.kept hb); clear HA; have HA := HA'; clear HA'
      clear hb
      have cHA := HA.out.cell
      have lHA := HA.out.lt
      go_wp2_with fail
      refine (HAw.out _ HL.out).mono ?_
      rintro e w4 ⟨rfl, hb⟩
      clear cHA lHA
      have hs4 := hb.size
      have HL' := Lib.hid (HL.out.trans (hb.mono HL.out.size)); clear HL; have HL := HL'; clear HL'
      have HA' := Lib.hid (HA.out.kept hb); clear HA; have HA := HA'; clear HA'
      clear hb
      have cHA := HA.out.cell
      have lHA := HA.out.lt
      go_wp2_with fail
      go_ret
      exact ⟨rfl, HL.out⟩
    | true =>
      rw [hs2] at HSo
      have hn1000 : n2 ≤ 1000 := by
        unfold shortO at hs2
        simp only [Bool.or_eq_true, decide_eq_true_eq, beq_iff_eq] at hs2
        omega
      have hF := short_fit hs hnm
      have h17 := hF.len
      have hE17 := h17
      rw [hl] at h17
      have HOw := Lib.hid (fun W (hW : Below w.heap.size w W) => own_r w.heap.size A n c a W (hM.below hW) hW.size (by omega))
      have HOd := Lib.hid (fun W (hW : Below w.heap.size w W) => orders_any w.heap.size A2 n2 c2 l W (hO.below hW) hW.size hn1000)
      unfold OdsRes at HOd
      have hEo : ordsE a l = 0 → armE a = 0 ∧ ∀ o ∈ l, orderE o = 0 := fun h => by
        rw [ords_r, firstE_cons, firstE_cons] at h
        exact ⟨(or0_zero h).1, (rords_zero (or0_zero (or0_zero h).2).1).2⟩
      have HRu := Lib.hid (fun W A A3 c c3 (hm : MsAt W W.heap.size A n a.m) (hc : n ≤ c) (hr : Reads W W.heap.size 2 A3 n2 (ods l)) => (Run_any W.heap.size W.heap.size A A3 n c n2 c3 a l W hm (Nat.le_refl _) hF hc hr (Nat.le_refl _) hn1000).mono fun _ _ => run_uni hl hEo)
      have HWk := Lib.hid (fun W A A3 c c3 (hm : MsAt W W.heap.size A n a.m) (hc : n ≤ c) (hr : Reads W W.heap.size 2 A3 n2 (ods l)) => Work_any W.heap.size W.heap.size A A3 n c n2 c3 a l W hm (Nat.le_refl _) hF hc hr (Nat.le_refl _) hn1000)
      have HLg := Lib.hid (fun W A A3 c c3 (hm : MsAt W W.heap.size A n a.m) (hc : n ≤ c) (hr : Reads W W.heap.size 2 A3 n2 (ods l)) => Log_any W.heap.size W.heap.size A A3 n c n2 c3 a l W hm (Nat.le_refl _) hF hc hr (Nat.le_refl _) hn1000)
      have HCk := Lib.hid (fun W (hW : Below w.heap.size w W) => rCheckArm_any w.heap.size A n c a W (hM.below hW) hW.size hF)
      have HCo := Lib.hid (fun W (hW : Below w.heap.size w W) => rCheckOrders_any w.heap.size A2 n2 c2 l W (hO.below hW) hW.size (by unfold maxLen; omega))
      have hru : runA a l = runA a l := rfl
      have hral := runA_len hE17 hEo
      have HMs := Lib.hid hM
      have HOs := Lib.hid hO
      have HEo := Lib.hid hEo
      have HFi := Lib.hid hF
      have HEl := Lib.hid hl
      have hoe := ords_r a l
      have hlog : wrkE a l ≠ 0 → logV a l = [] := fun h => if_neg h
      have hwv : wrkE a l ≠ 0 → wrkV a l = 0 := fun h => if_neg h
      have hq : ∀ (i : Nat) (h : i < (logV a l).length), ∀ q ∈ (logV a l)[i], 0 ≤ q ∧ q ≤ 16384 := fun i h => by
        by_cases h0 : wrkE a l = 0
        · have e : logV a l = logL a l := if_pos h0
          have h1 := h0
          unfold wrkE at h1
          obtain ⟨ha, hb⟩ := or0_zero h1
          have h' : i < (logL a l).length := by rw [← e]; exact h
          have := log_q (hEo ha).1 (hEo ha).2 hb i h'
          simp only [e]
          exact this
        · have e : logV a l = [] := if_neg h0
          rw [e] at h
          exact absurd h (Nat.not_lt_zero _)
      have hll : (logV a l).length ≤ 1000 := by
        by_cases h0 : wrkE a l = 0
        · rw [show logV a l = logL a l from if_pos h0, log_len]
          omega
        · rw [show logV a l = [] from if_neg h0]
          exact Nat.zero_le _
      have HQ := Lib.hid hq
      have HLg0 := Lib.hid hlog
      have HWv0 := Lib.hid hwv
      have HOe := Lib.hid hoe
      clear hM hnm hF hs hl hO hE17 hEo hru hoe hlog hwv hq hs2 hl2
      obtain ⟨ee, hee⟩ : ∃ ee, armE a = ee := ⟨_, rfl⟩
      obtain ⟨ro, hro⟩ : ∃ ro, rordsE l = ro := ⟨_, rfl⟩
      obtain ⟨oe, hoe⟩ : ∃ oe, ordsE a l = oe := ⟨_, rfl⟩
      obtain ⟨we, hwe⟩ : ∃ we, wrkE a l = we := ⟨_, rfl⟩
      obtain ⟨wv, hwv⟩ : ∃ wv, wrkV a l = wv := ⟨_, rfl⟩
      obtain ⟨ri, hri⟩ : ∃ ri, runI a l = ri := ⟨_, rfl⟩
      obtain ⟨ra, hra⟩ : ∃ ra, runA a l = ra := ⟨_, rfl⟩
      obtain ⟨lg, hlg⟩ : ∃ lg, logV a l = lg := ⟨_, rfl⟩
      rw [hee] at HCk
      rw [hro] at HCo
      rw [hee, hro, hoe] at HOe
      rw [hwe, hri, hra] at HRu
      rw [hwe, hwv] at HWk
      rw [hwe, hlg] at HLg
      rw [hwe, hlg] at HLg0
      rw [hwe, hwv] at HWv0
      rw [hra] at hral
      rw [hlg] at hll HQ
      have HEe := Lib.hid hee
      have HRo := Lib.hid hro
      have HOee := Lib.hid hoe
      have HWe := Lib.hid hwe
      have HWv := Lib.hid hwv
      have HRi := Lib.hid hri
      have HRa := Lib.hid hra
      have HLge := Lib.hid hlg
      unfold LogRes at HLg
      clear hee hro hoe hwe hwv hri hra hlg
      go_enter Tryz.func4, Tryz.ntmps4
      go_wp2_with fail
      refine (HAw.out _ bl_).mono ?_
      rintro e w1 ⟨rfl, hb⟩
      have HA : Hid (Blk w1 (w.heap.size) 26 #[.slice A n c, .int .i64 a.lo, .int .i64 a.hi, .int .i64 a.cur, .int .i64 a.lim]) := Lib.hid bk_
      have HL : Hid (Below w.heap.size w w1) := Lib.hid bl_
      have hs1 := HL.out.size
      clear hb
      have cHA := HA.out.cell
      have lHA := HA.out.lt
      go_wp2_with fail
      refine (HSh.out _ HL.out).mono ?_
      rintro e w2 ⟨rfl, hb⟩
      clear cHA lHA
      have hs2 := hb.size
      have HL' := Lib.hid (HL.out.trans (hb.mono HL.out.size)); clear HL; have HL := HL'; clear HL'
      have HA' := Lib.hid (HA.out.kept hb); clear HA; have HA := HA'; clear HA'
      clear hb
      have cHA := HA.out.cell
      have lHA := HA.out.lt
      go_wp2_with fail
      refine (HSo.out _).mono ?_
      rintro e w3 ⟨rfl, hb⟩
      clear cHA lHA
      have hs3 := hb.size
      have HL' := Lib.hid (HL.out.trans (hb.mono HL.out.size)); clear HL; have HL := HL'; clear HL'
      have HA' := Lib.hid (HA.out.kept hb); clear HA; have HA := HA'; clear HA'
      clear hb
      have cHA := HA.out.cell
      have lHA := HA.out.lt
      go_wp2_with fail
      refine (HOw.out _ HL.out).mono ?_
      rintro e w4 ⟨A4, c4, rfl, hm, hc, hb⟩
      have HM4 := Lib.hid hm; have HC4 := Lib.hid hc; clear hm hc
      clear cHA lHA
      have hs4 := hb.size
      have HL' := Lib.hid (HL.out.trans (hb.mono HL.out.size)); clear HL; have HL := HL'; clear HL'
      have HA' := Lib.hid (HA.out.kept hb); clear HA; have HA := HA'; clear HA'
      clear hb
      have cHA := HA.out.cell
      have lHA := HA.out.lt
      go_wp2_with fail
      refine (HOd.out _ HL.out).mono ?_
      rintro e w5 ⟨A5, c5, rfl, hrd, _, hb⟩
      have HR5 := Lib.hid hrd; clear hrd; have HM42 := Lib.hid (ms_kept HM4.out hb); clear HM4
      clear cHA lHA
      have hs5 := hb.size
      have HL' := Lib.hid (HL.out.trans (hb.mono HL.out.size)); clear HL; have HL := HL'; clear HL'
      have HA' := Lib.hid (HA.out.kept hb); clear HA; have HA := HA'; clear HA'
      clear hb
      have cHA := HA.out.cell
      have lHA := HA.out.lt
      go_wp2_with fail
      refine (HRu.out _ _ _ _ _ HM42.out HC4.out HR5.out).mono ?_
      rintro e w6 ⟨A6, c6, rfl, hm, hb⟩
      clear HM42 HC4 HR5
      have HX := Lib.hid hm
      clear hm
      generalize A6 = AX at *
      generalize c6 = cX at *
      clear cHA lHA
      have hs6 := hb.size
      have HL' := Lib.hid (HL.out.trans (hb.mono HL.out.size)); clear HL; have HL := HL'; clear HL'
      have HA' := Lib.hid (HA.out.kept hb); clear HA; have HA := HA'; clear HA'
      clear hb
      have cHA := HA.out.cell
      have lHA := HA.out.lt
      go_upto_region 4 with fail
      refine wp_world ?_
      intro w7 hW
      have hb : Below w6.heap.size w6 w7 := by rw [hW]; exact (Below.refl _ _).alloc (Nat.le_refl _) _
      have HN := Lib.hid (show Blk w7 w6.heap.size 35 #[.slice AX ra.m.length cX, .int .i64 ra.lo, .int .i64 ra.hi, .int .i64 ra.cur, .int .i64 ra.lim] from by rw [hW]; exact Blk.new _ _ _)
      obtain ⟨b5, hb5⟩ : ∃ b, w6.heap.size = b := ⟨_, rfl⟩
      rw [hb5] at HN ⊢
      clear hb5 hW HRu
      clear cHA lHA
      have hs7 := hb.size
      have HL' := Lib.hid (HL.out.trans (hb.mono HL.out.size)); clear HL; have HL := HL'; clear HL'
      have HA' := Lib.hid (HA.out.kept hb); clear HA; have HA := HA'; clear HA'
      have HX' := Lib.hid (ms_kept HX.out hb); clear HX; have HX := HX'; clear HX'
      clear hb
      have cHA := HA.out.cell
      have lHA := HA.out.lt
      have cHN := HN.out.cell
      have lHN := HN.out.lt
      go_wp2_with fail
      refine (HOw.out _ HL.out).mono ?_
      rintro e w8 ⟨A8, c8, rfl, hm, hc, hb⟩
      have HM8 := Lib.hid hm; have HC8 := Lib.hid hc; clear hm hc
      clear cHA lHA cHN lHN
      have hs8 := hb.size
      have HL' := Lib.hid (HL.out.trans (hb.mono HL.out.size)); clear HL; have HL := HL'; clear HL'
      have HA' := Lib.hid (HA.out.kept hb); clear HA; have HA := HA'; clear HA'
      have HX' := Lib.hid (ms_kept HX.out hb); clear HX; have HX := HX'; clear HX'
      have HN' := Lib.hid (HN.out.kept hb); clear HN; have HN := HN'; clear HN'
      clear hb
      have cHA := HA.out.cell
      have lHA := HA.out.lt
      have cHN := HN.out.cell
      have lHN := HN.out.lt
      go_wp2_with fail
      refine (HOd.out _ HL.out).mono ?_
      rintro e w9 ⟨A9, c9, rfl, hrd, _, hb⟩
      have HR9 := Lib.hid hrd; clear hrd; have HM82 := Lib.hid (ms_kept HM8.out hb); clear HM8
      clear cHA lHA cHN lHN
      have hs9 := hb.size
      have HL' := Lib.hid (HL.out.trans (hb.mono HL.out.size)); clear HL; have HL := HL'; clear HL'
      have HA' := Lib.hid (HA.out.kept hb); clear HA; have HA := HA'; clear HA'
      have HX' := Lib.hid (ms_kept HX.out hb); clear HX; have HX := HX'; clear HX'
      have HN' := Lib.hid (HN.out.kept hb); clear HN; have HN := HN'; clear HN'
      clear hb
      have cHA := HA.out.cell
      have lHA := HA.out.lt
      have cHN := HN.out.cell
      have lHN := HN.out.lt
      go_wp2_with fail
      refine (HWk.out _ _ _ _ _ HM82.out HC8.out HR9.out).mono ?_
      rintro e w10 ⟨rfl, hb⟩
      clear HM82 HC8 HR9 HWk
      clear cHA lHA cHN lHN
      have hs10 := hb.size
      have HL' := Lib.hid (HL.out.trans (hb.mono HL.out.size)); clear HL; have HL := HL'; clear HL'
      have HA' := Lib.hid (HA.out.kept hb); clear HA; have HA := HA'; clear HA'
      have HX' := Lib.hid (ms_kept HX.out hb); clear HX; have HX := HX'; clear HX'
      have HN' := Lib.hid (HN.out.kept hb); clear HN; have HN := HN'; clear HN'
      clear hb
      have cHA := HA.out.cell
      have lHA := HA.out.lt
      have cHN := HN.out.cell
      have lHN := HN.out.lt
      go_wp2_with fail
      refine (HOw.out _ HL.out).mono ?_
      rintro e w11 ⟨A11, c11, rfl, hm, hc, hb⟩
      have HM11 := Lib.hid hm; have HC11 := Lib.hid hc; clear hm hc
      clear cHA lHA cHN lHN
      have hs11 := hb.size
      have HL' := Lib.hid (HL.out.trans (hb.mono HL.out.size)); clear HL; have HL := HL'; clear HL'
      have HA' := Lib.hid (HA.out.kept hb); clear HA; have HA := HA'; clear HA'
      have HX' := Lib.hid (ms_kept HX.out hb); clear HX; have HX := HX'; clear HX'
      have HN' := Lib.hid (HN.out.kept hb); clear HN; have HN := HN'; clear HN'
      clear hb
      have cHA := HA.out.cell
      have lHA := HA.out.lt
      have cHN := HN.out.cell
      have lHN := HN.out.lt
      go_wp2_with fail
      refine (HOd.out _ HL.out).mono ?_
      rintro e w12 ⟨A12, c12, rfl, hrd, _, hb⟩
      have HR12 := Lib.hid hrd; clear hrd; have HM112 := Lib.hid (ms_kept HM11.out hb); clear HM11
      clear cHA lHA cHN lHN
      have hs12 := hb.size
      have HL' := Lib.hid (HL.out.trans (hb.mono HL.out.size)); clear HL; have HL := HL'; clear HL'
      have HA' := Lib.hid (HA.out.kept hb); clear HA; have HA := HA'; clear HA'
      have HX' := Lib.hid (ms_kept HX.out hb); clear HX; have HX := HX'; clear HX'
      have HN' := Lib.hid (HN.out.kept hb); clear HN; have HN := HN'; clear HN'
      clear hb
      have cHA := HA.out.cell
      have lHA := HA.out.lt
      have cHN := HN.out.cell
      have lHN := HN.out.lt
      go_wp2_with fail
      refine (HLg.out _ _ _ _ _ HM112.out HC11.out HR12.out).mono ?_
      rintro e w13 ⟨v, vs, rfl, ho, _, hi, hb⟩
      clear HM112 HC11 HR12 HLg
      obtain ⟨A10, c10, rfl, _, _, _⟩ := own_form ho
      have HY := Lib.hid (⟨ho, hi⟩ : LgS _ _ _ _ w13)
      clear ho hi
      clear cHA lHA cHN lHN
      have hs13 := hb.size
      have HL' := Lib.hid (HL.out.trans (hb.mono HL.out.size)); clear HL; have HL := HL'; clear HL'
      have HA' := Lib.hid (HA.out.kept hb); clear HA; have HA := HA'; clear HA'
      have HX' := Lib.hid (ms_kept HX.out hb); clear HX; have HX := HX'; clear HX'
      have HN' := Lib.hid (HN.out.kept hb); clear HN; have HN := HN'; clear HN'
      clear hb
      have cHA := HA.out.cell
      have lHA := HA.out.lt
      have cHN := HN.out.cell
      have lHN := HN.out.lt
      go_wp2_with fail
      refine (HCk.out _ HL.out).mono ?_
      rintro e w14 ⟨rfl, hb⟩
      clear cHA lHA cHN lHN
      have hs14 := hb.size
      have HL' := Lib.hid (HL.out.trans (hb.mono HL.out.size)); clear HL; have HL := HL'; clear HL'
      have HA' := Lib.hid (HA.out.kept hb); clear HA; have HA := HA'; clear HA'
      have HX' := Lib.hid (ms_kept HX.out hb); clear HX; have HX := HX'; clear HX'
      have HN' := Lib.hid (HN.out.kept hb); clear HN; have HN := HN'; clear HN'
      have HY' := Lib.hid (HY.out.kept hb); clear HY; have HY := HY'; clear HY'
      clear hb
      have cHA := HA.out.cell
      have lHA := HA.out.lt
      have cHN := HN.out.cell
      have lHN := HN.out.lt
      go_wp2_with fail
      refine (HCo.out _ HL.out).mono ?_
      rintro e w15 ⟨rfl, hb⟩
      clear cHA lHA cHN lHN
      have hs15 := hb.size
      have HL' := Lib.hid (HL.out.trans (hb.mono HL.out.size)); clear HL; have HL := HL'; clear HL'
      have HA' := Lib.hid (HA.out.kept hb); clear HA; have HA := HA'; clear HA'
      have HX' := Lib.hid (ms_kept HX.out hb); clear HX; have HX := HX'; clear HX'
      have HN' := Lib.hid (HN.out.kept hb); clear HN; have HN := HN'; clear HN'
      have HY' := Lib.hid (HY.out.kept hb); clear HY; have HY := HY'; clear HY'
      clear hb
      have cHA := HA.out.cell
      have lHA := HA.out.lt
      have cHN := HN.out.cell
      have lHN := HN.out.lt
      go_wp2_with fail
      refine (calls_below (rFirst_any (w15.heap.size + 1) _ 2 2 [ee, ro] _ (by simpa using Reads.new (size := 1) w15 (([ee, ro]).map (.int .i64)).toArray 3 2 rfl) (by unfold maxLen; decide))).mono ?_
      rintro e w16 ⟨rfl, hb⟩
      clear cHA lHA cHN lHN
      have hb := ((Below.refl _ _).alloc (Nat.le_refl _) _).trans (hb.mono (by simp))
      have hs16 := hb.size
      have HL' := Lib.hid (HL.out.trans (hb.mono HL.out.size)); clear HL; have HL := HL'; clear HL'
      have HA' := Lib.hid (HA.out.kept hb); clear HA; have HA := HA'; clear HA'
      have HX' := Lib.hid (ms_kept HX.out hb); clear HX; have HX := HX'; clear HX'
      have HN' := Lib.hid (HN.out.kept hb); clear HN; have HN := HN'; clear HN'
      have HY' := Lib.hid (HY.out.kept hb); clear HY; have HY := HY'; clear HY'
      clear hb
      have cHA := HA.out.cell
      have lHA := HA.out.lt
      have cHN := HN.out.cell
      have lHN := HN.out.lt
      rw [← HOe.out]
      clear HCk HCo HOw HOd
      go_upto_if 63 with fail
      refine wp_world ?_
      intro W0 hW
      have HK := Lib.hid (show Below w16.heap.size w16 W0 from by rw [hW]; exact (Below.refl _ _).alloc (Nat.le_refl _) _)
      have HZ := Lib.hid (show Blk W0 w16.heap.size 26 #[.slice none 0 0, .int .i64 0, .int .i64 0, .int .i64 0, .int .i64 0] from by rw [hW]; exact Blk.new _ _ _)
      clear hW cHA lHA cHN lHN
      go_cut [12, 13] (fun s12 s13 wx => ∃ (A3 : Option Addr) (c3 : Nat), s12 = .int .i64 we ∧ s13 = .int .i64 ri ∧ Blk wx w16.heap.size 26 #[.slice A3 ra.m.length c3, .int .i64 ra.lo, .int .i64 ra.hi, .int .i64 ra.cur, .int .i64 ra.lim] ∧ MsAt wx wx.heap.size A3 ra.m.length ra.m ∧ Below w16.heap.size w16 wx)
      case first =>
        as_aux_lemma =>
          have HAw2 := HA.out.kept HK.out
          have HLw := Lib.hid (HL.out.trans (HK.out.mono HL.out.size))
          have cHA := HAw2.cell
          have lHA := HAw2.lt
          clear HAw2
          clear HA HN HX HY
          by_cases h0 : oe = 0
          case pos =>
            subst h0
            obtain ⟨hE, ho⟩ := HEo.out HOee.out
            have HS := Lib.hid (fun W (hW : Below w.heap.size w W) => rRun_any w.heap.size w.heap.size A A2 n c n2 c2 a l W (HMs.out.below hW) hW.size h17 HFi.out hE (HOs.out.below hW) hW.size hn1000 ho)
            have hra : (runGo 0 a l).1 = ra := by rw [← HRa.out]; unfold runA; rw [if_pos HOee.out]
            have hri : ((runGo 0 a l).2.1 : Int) = ri := by rw [← HRi.out]; unfold runI; rw [if_pos HOee.out]
            have hwe : (runGo 0 a l).2.2 = we := by rw [← HWe.out]; unfold wrkE folE; rw [HOee.out, or0_yes]
            unfold RunRR at HS
            rw [hra, hri, hwe] at HS
            clear hra hri hwe hE ho
            go_wp2_with fail
            refine (HS.out _ HLw.out).mono ?_
            rintro e wx ⟨A3, c3, rfl, hm, hb⟩
            have HKx := Lib.hid (HK.out.trans (hb.mono HK.out.size))
            have HZx := HZ.out.kept hb
            have HM := Lib.hid hm
            clear hb hm cHA lHA HS
            have hsx := HKx.out.size
            have cZ := HZx.cell
            have lZ := HZx.lt
            have fZ := HZx.frozen
            have HZy := Lib.hid (put5_blk (v0 := .slice A3 ra.m.length c3) (v1 := .int .i64 ra.lo) (v2 := .int .i64 ra.hi) (v3 := .int .i64 ra.cur) (v4 := .int .i64 ra.lim) HZx)
            have HMy := Lib.hid (ms_put5 (v0 := .slice A3 ra.m.length c3) (v1 := .int .i64 ra.lo) (v2 := .int .i64 ra.hi) (v3 := .int .i64 ra.cur) (v4 := .int .i64 ra.lim) HM.out HZx)
            have HKy := Lib.hid (put5_low (b := w16.heap.size) (v0 := .slice A3 ra.m.length c3) (v1 := .int .i64 ra.lo) (v2 := .int .i64 ra.hi) (v3 := .int .i64 ra.cur) (v4 := .int .i64 ra.lim) HKx.out (Nat.le_refl _))
            clear HZx HM HKx
            go_wp2_with fail
            go_meet
            case rel => exact ⟨A3, c3, rfl, rfl, HZy.out, HMy.out, HKy.out⟩
          case neg =>
            have hne : (oe == 0) = false := by simpa using h0
            have HX : Hid (oe = we ∧ (0 : Int) = ri ∧ ra = nilA) := Lib.hid ⟨by rw [← HWe.out]; unfold wrkE; rw [HOee.out, or0_no h0], by rw [← HRi.out]; unfold runI; rw [if_neg (by rw [HOee.out]; exact h0)], by rw [← HRa.out]; unfold runA; rw [if_neg (by rw [HOee.out]; exact h0)]⟩
            go_wp2_with fail
            go_meet
            case rel =>
              obtain ⟨q1, q2, q3⟩ := HX.out
              exact ⟨none, 0, by rw [q1], by rw [q2], by rw [q3]; exact HZ.out, by rw [q3]; exact ms_nil _ _, HK.out⟩
      rename World => W1
      obtain ⟨A3, c3, rfl, rfl, hz, hm3, hb⟩ := hcut
      clear HK HZ
      have HK := Lib.hid hb
      have HZ := Lib.hid hz
      have HM3 := Lib.hid hm3
      clear hb hz hm3
      go_upto_if 72 with fail
      go_cut [14, 16] (fun s14 s16 wx => ∃ (A16 : Option Addr) (c16 base : Nat) (vs2 : List Value), s14 = .int .i64 wv ∧ s16 = .slice A16 lg.length c16 ∧ LgS base (.slice A16 lg.length c16) vs2 lg wx ∧ Below W1.heap.size W1 wx)
      case first =>
        as_aux_lemma =>
          have HAw2 := HA.out.kept HK.out
          have HLw := Lib.hid (HL.out.trans (HK.out.mono HL.out.size))
          have cHA := HAw2.cell
          have lHA := HAw2.lt
          clear HAw2
          by_cases h0 : we = 0
          case pos =>
            subst h0
            have h1 := HWe.out
            unfold wrkE at h1
            obtain ⟨hoe, hfo⟩ := or0_zero h1
            obtain ⟨hE, ho⟩ := HEo.out hoe
            have HW := Lib.hid (fun W (hW : Below w.heap.size w W) => rWork_any w.heap.size w.heap.size A A2 n c n2 c2 a l W (HMs.out.below hW) hW.size h17 HFi.out hE (HOs.out.below hW) hW.size hn1000 ho hfo)
            have HG := Lib.hid (fun W (hW : Below w.heap.size w W) => rLog_any w.heap.size w.heap.size A A2 n c n2 c2 a l W (HMs.out.below hW) hW.size h17 HFi.out hE (HOs.out.below hW) hW.size hn1000 ho hfo)
            have hwv : workL a l = wv := by rw [← HWv.out]; unfold wrkV; rw [if_pos HWe.out]
            have hlg : logL a l = lg := by rw [← HLge.out]; unfold logV; rw [if_pos HWe.out]
            rw [hwv] at HW
            rw [hlg] at HG
            unfold rLogRes at HG
            clear h1 hoe hfo hE ho hwv hlg
            go_wp2_with fail
            refine (HW.out _ HLw.out).mono ?_
            rintro e wx ⟨rfl, hb⟩
            have HBx := Lib.hid hb
            have HLx := Lib.hid (HLw.out.trans (hb.mono HLw.out.size))
            have hAx := HA.out.kept (HK.out.trans (hb.mono HK.out.size))
            clear hb cHA lHA
            have cHA := hAx.cell
            have lHA := hAx.lt
            go_wp2_with fail
            refine (HG.out _ HLx.out).mono ?_
            rintro e wy ⟨v, vs2, rfl, ho, hi, hb⟩
            obtain ⟨A16, c16, rfl, _, _, _⟩ := own_form ho
            have HS := Lib.hid (⟨ho, hi⟩ : LgS _ _ _ _ wy)
            have HBy := Lib.hid (HBx.out.trans (hb.mono HBx.out.size))
            clear hb ho hi cHA lHA hAx
            go_wp2_with fail
            go_meet
            case rel => exact ⟨A16, c16, _, vs2, rfl, rfl, HS.out, HBy.out⟩
          case neg =>
            have hne : (we == 0) = false := by simpa using h0
            have HX1 : Hid ((0 : Int) = wv ∧ lg = []) := Lib.hid ⟨(HWv0.out h0).symm, HLg0.out h0⟩
            go_wp2_with fail
            go_meet
            case rel =>
              obtain ⟨q1, q2⟩ := HX1.out
              exact ⟨none, 0, 0, [], by rw [q1], by rw [q2]; rfl, by rw [q2]; exact ⟨World.ownsRow_nil _ _ _ _, fun i u hu => by simp at hu⟩, Below.refl _ _⟩
      rename World => w17
      obtain ⟨A16, c16, base2, vs2, rfl, rfl, hlg2, hb1⟩ := hcut
      have hb := HK.out.trans (hb1.mono HK.out.size)
      have HZ' := Lib.hid (HZ.out.kept hb1); clear HZ; have HZ := HZ'; clear HZ'
      have HM3' := Lib.hid (ms_kept HM3.out hb1); clear HM3; have HM3 := HM3'; clear HM3'
      have HV := Lib.hid hlg2
      clear hb1 hlg2 HK
      have hs17 := hb.size
      have HL' := Lib.hid (HL.out.trans (hb.mono HL.out.size)); clear HL; have HL := HL'; clear HL'
      have HA' := Lib.hid (HA.out.kept hb); clear HA; have HA := HA'; clear HA'
      have HX' := Lib.hid (ms_kept HX.out hb); clear HX; have HX := HX'; clear HX'
      have HN' := Lib.hid (HN.out.kept hb); clear HN; have HN := HN'; clear HN'
      have HY' := Lib.hid (HY.out.kept hb); clear HY; have HY := HY'; clear HY'
      clear hb
      have cHA := HA.out.cell
      have lHA := HA.out.lt
      have cHN := HN.out.cell
      have lHN := HN.out.lt
      have cHZ := HZ.out.cell
      have lHZ := HZ.out.lt
      have hwv0 := HWv0.out
      have HTb := Lib.hid (fun W A c (hm : MsAt W W.heap.size A ra.m.length ra.m) => told_r W.heap.size A ra.m.length c ra W hm (Nat.le_refl _) hral)
      have HSb := Lib.hid (fun W A1 A2 c1 c2 (h1 : MsAt W W.heap.size A1 ra.m.length ra.m) (h2 : MsAt W W.heap.size A2 ra.m.length ra.m) => Same_self W.heap.size W.heap.size A1 A2 ra.m.length c1 c2 ra W h1 h2 (Nat.le_refl _) (Nat.le_refl _) hral)
      have HN1 := Lib.hid (fun W => number_any wv we wv W hwv0 (fun _ => rfl))
      have hr1 : (ri != ri) = false := by simp
      have hr2 : (we != we) = false := by simp
      clear hwv0
      go_upto_region 15 with fail
      (refine wp_region_calm [] [0, 2] 33 (by kernel_rfl) rfl (by kernel_rfl) (by kernel_rfl) (by kernel_rfl) ?_; simp only [pickB, List.filterMap_cons, List.filterMap_nil, List.getElem?_toArray, List.getElem?_cons_zero, List.getElem?_cons_succ]; (repeat (first | ((first | (with_reducible refine quietL_plain rfl (fun K hK => ?_)) | (with_reducible refine quietL_want (by with_unfolding_all rfl) (fun K hK => ?_))); (apply Exists.intro; refine ⟨fun wx hx => ?_, ?_⟩; (· (have hcx := ifs_ex hx); simp [go_sem, *, ↓IntWalk.iteOmega] <;> (first | rfl | exact ⟨rfl, rfl⟩ | fail)); (simp only [Act.put, List.setIfInBounds_toArray, List.set_cons_zero, List.set_cons_succ]; refine hK _ ?_; clear hK K))) | ((with_reducible refine quietL_skip (by with_unfolding_all rfl) ?_); simp only [Act.put, List.setIfInBounds_toArray, List.set_cons_zero, List.set_cons_succ]))); refine quietL_nil ?_)
      (refine anyB_one (i := 1) (by kernel_rfl) rfl rfl ?_; intro w18 hb18 K hK; have hs18 := hb18.size; (try simp at hs18); go_wp2_with fail)
      refine (HTb.out _ _ _ (ms_kept HX.out hb18)).mono ?_
      rintro e w19 ⟨At1, ct1, rfl, hm, _, hb19⟩
      have hs19 := hb19.size
      have HM4 := Lib.hid hm
      clear hm
      (go_wp2; refine ⟨xs_, ?_⟩)
      (refine anyB_one (i := 3) (by kernel_rfl) rfl rfl ?_; intro w20 hb20 K hK; have hs20 := hb20.size; (try simp at hs20); go_wp2_with fail)
      refine (HSb.out _ _ _ _ _ (ms_kept HM4.out hb20) (ms_kept (ms_kept (ms_kept HM3.out hb18) hb19) hb20)).mono ?_
      rintro e w21 ⟨rfl, hb21⟩
      have hs21 := hb21.size
      (go_wp2; refine ⟨xs_, ?_⟩)
      (refine anyB_quiet_at (by kernel_rfl) calm_panic xs_ 0 [4, 5, 6, 7, 8, 9, 10, 11, 12, 13, 14, 15, 16, 17, 18, 19, 20, 21, 22, 23, 24, 25, 26, 27, 28, 29, 30, 31, 32, 33, 34] _ _ (by kernel_rfl) (by decide +kernel) ?_; simp only [pickB, List.filterMap_cons, List.filterMap_nil, List.getElem?_toArray, List.getElem?_cons_zero, List.getElem?_cons_succ]; (repeat (first | ((first | (with_reducible refine quietL_plain rfl (fun K hK => ?_)) | (with_reducible refine quietL_want (by with_unfolding_all rfl) (fun K hK => ?_))); (apply Exists.intro; refine ⟨fun wx hx => ?_, ?_⟩; (· (have hcx := ifs_ex hx); simp [go_sem, *, ↓IntWalk.iteOmega] <;> (first | rfl | exact ⟨rfl, rfl⟩ | (with_reducible exact calls_B (calls_below (HN1.out _))))); (simp only [Act.put, List.setIfInBounds_toArray, List.set_cons_zero, List.set_cons_succ]; refine hK _ ?_; clear hK K))) | ((with_reducible refine quietL_skip (by with_unfolding_all rfl) ?_); simp only [Act.put, List.setIfInBounds_toArray, List.set_cons_zero, List.set_cons_succ]))); refine quietL_nil ?_)
      (refine anyB_end (by kernel_rfl) ?_; intro w22 hb22; have hs22 := hb22.size; (try simp at hs22); simp only [Calm])
      have hb := hb18.trans ((hb19.trans ((hb20.trans ((hb21.trans ((hb22).mono hs21)).mono hs20)).mono hs19)).mono hs18)
      have HYz := Lib.hid (HY.out.kept hb)
      have HVz := Lib.hid (HV.out.kept hb)
      have HLz := Lib.hid (HL.out.trans (hb.mono HL.out.size))
      clear hb hb18 hb19 hb20 hb21 hb22 cHA lHA cHN lHN cHZ lHZ HY HV HL HA HN HZ HM3 HM4 HX
      as_aux_lemma =>
        go_wp2_with fail
        go_loopw [17, 122] (fun s17 s122 wr => ∃ i : Nat, i ≤ lg.length ∧ s122 = .int .i64 (i : Int) ∧ Below w22.heap.size w22 wr) (fun _ s122 _ => lg.length - (intOf s122).toNat)
        case atStart => exact ⟨0, by omega, rfl, Below.refl _ _⟩
        case round =>
          obtain ⟨i, hi, rfl, hbw⟩ := hrel
          have HBw := Lib.hid hbw
          have hsr := hbw.size
          by_cases hlt : i < lg.length
          · obtain ⟨ba, oa, Aa, ca, ea, hba, za, hra⟩ := (HYz.out.kept hbw).at_ rfl hlt
            obtain ⟨bb, ob, Ab, cb, eb, hbb, zb, hrb⟩ := (HVz.out.kept hbw).at_ rfl hlt
            have hq := HQ.out i hlt
            have hlq : (lg[i]).length ≤ (lg[i]).length := Nat.le_refl _
            have e1 : smps lg[i] = ((lg[i]).map smp).map (Value.float .f32) := by unfold smps; rw [List.map_map]; rfl
            rw [e1] at hra hrb
            have hlm : (lg[i]).length ≤ maxLen := own_max (HYz.out) hlt
            have HSS := Lib.hid (fun W (hW : Below wr.heap.size wr W) => SameSamples_any wr.heap.size wr.heap.size Aa Ab (lg[i]).length (lg[i]).length ca cb ((lg[i]).map smp) ((lg[i]).map smp) W (hra.below hW) (hrb.below hW) hW.size hW.size hlm hlm)
            rw [sameF_smp hq] at HSS
            clear hq hra hrb e1 hbw hlq hlm
            generalize (lg[i]).length = m at *
            subst ea
            subst eb
            go_wp2_with fail
            (refine wp_region_calm [] [0, 1, 2, 3, 4, 5, 6, 7, 8, 9] 0 (by kernel_rfl) rfl (by kernel_rfl) (by kernel_rfl) (by kernel_rfl) ?_; simp only [pickB, List.filterMap_cons, List.filterMap_nil, List.getElem?_toArray, List.getElem?_cons_zero, List.getElem?_cons_succ]; (repeat (first | ((first | (with_reducible refine quietL_plain rfl (fun K hK => ?_)) | (with_reducible refine quietL_want (by with_unfolding_all rfl) (fun K hK => ?_))); (apply Exists.intro; refine ⟨fun wx hx => ?_, ?_⟩; (· (have hcx := ifs_ex hx); simp [go_sem, *, ↓IntWalk.iteOmega] <;> (first | rfl | exact ⟨rfl, rfl⟩ | (with_reducible exact calls_B (HSS.out _ (Ex.low hx))))); (simp only [Act.put, List.setIfInBounds_toArray, List.set_cons_zero, List.set_cons_succ]; refine hK _ ?_; clear hK K))) | ((with_reducible refine quietL_skip (by with_unfolding_all rfl) ?_); simp only [Act.put, List.setIfInBounds_toArray, List.set_cons_zero, List.set_cons_succ]))); refine quietL_nil ?_)
            (refine anyB_end (by kernel_rfl) ?_; intro w91 hb91; have hs91 := hb91.size; (try simp at hs91); simp only [Calm])
            have HB9 := Lib.hid (HBw.out.trans (hb91.mono hsr))
            clear hb91 za zb
            go_wp2_with fail
            go_roundw
            case rel => exact ⟨i + 1, by omega, by go_num, HB9.out⟩
            case measure => simp [intOf]; omega
          · obtain rfl : i = lg.length := by omega
            have HBz := Lib.hid (HLz.out.trans (hbw.mono HLz.out.size))
            clear hbw
            go_wp2_with fail
            go_ret
            exact ⟨by first | rfl | (simp; done), HBz.out⟩
end Go.Proofs.YtfpjcnkfoehhmaaGreatDoor
