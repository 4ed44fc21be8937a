/- Choose of the reference. -/
import Derived.Test.YtfpjcnkfoehhmaaGreatDoorEA
import Derived.Test.YtfpjcnkfoehhmaaGreatDoorQj
import Derived.Test.YtfpjcnkfoehhmaaGreatDoorQg
import Derived.Test.YtfpjcnkfoehhmaaGreatDoorQk
namespace Go.Proofs.YtfpjcnkfoehhmaaGreatDoor
open Go.RowKit Go.Sort Go.Shelf
set_option linter.unusedSimpArgs false
set_option linter.unusedVariables false
attribute [local go_sem] cell_if frozen_if grow_cell
/-- Between two steps of the reference's choice. -/
structure RcI (w : World) (A : Option Addr) (n c : Nat) (a : Ar) (o : Od) (v : Value) (set : List Int) (W : World) : Prop where
  arm : Blk W w.heap.size 26 #[.slice A n c, .int .i64 a.lo, .int .i64 a.hi, .int .i64 a.cur, .int .i64 a.lim]
  ord : Blk W (w.heap.size + 1) 68 #[.int .i64 o.n, .int .i64 o.c]
  row : W.ownsRow (w.heap.size + 1 + 1) 3 1 v set.length (set.map (.int .i64))
  low : Below w.heap.size w W
  le : w.heap.size + 1 + 1 ≤ W.heap.size
theorem RcI.kept {w : World} {A : Option Addr} {n c : Nat} {a : Ar} {o : Od} {v : Value} {set : List Int} {W W' : World} (h : RcI w A n c a o v set W) (hb : Below W.heap.size W W') : RcI w A n c a o v set W' :=
  ⟨h.arm.kept hb, h.ord.kept hb, own_kept h.row hb, h.low.trans (hb.mono h.low.size), Nat.le_trans h.le hb.size⟩
theorem RcI.put {w : World} {A : Option Addr} {n c : Nat} {a : Ar} {o : Od} {v v' : Value} {set set' : List Int} {W W' : World} (h : RcI w A n c a o v set W) (hb : Below (w.heap.size + 1 + 1) W W') (hk : ∀ k t c, t ≠ 3 → Blk W k t c → Blk W' k t c) (hr : W'.ownsRow (w.heap.size + 1 + 1) 3 1 v' set'.length (set'.map (.int .i64))) : RcI w A n c a o v' set' W' :=
  ⟨hk _ _ _ (by decide) h.arm, hk _ _ _ (by decide) h.ord, hr, h.low.trans (hb.mono (by omega)), Nat.le_trans h.le hb.size⟩
def slLen : Value → Nat
  | .slice _ n _ => n
  | _ => 0
def readI (v : Value) (w : World) : List Int := match v with
  | .slice (some ⟨b, o, none⟩) n _ => (List.range n).map fun i => match w.cell? ⟨b, o + i, none⟩ with
    | some (.int _ z) => z
    | _ => 0
  | _ => []
theorem readI_eq {A : Option Addr} {n c B : Nat} {l : List Int} {w : World} (h : Reads w B 1 A n (l.map (.int .i64))) : readI (.slice A n c) w = l := by
  obtain ⟨hl, hat⟩ := int_at h
  subst hl
  cases l with
  | nil =>
    unfold readI
    cases A with
    | none => rfl
    | some ad => obtain ⟨b, o, s⟩ := ad; cases s <;> rfl
  | cons x r =>
    obtain ⟨b, o, rfl, _, _⟩ := hat 0 (by simp)
    unfold readI
    refine List.ext_getElem (by simp) fun i h1 h2 => ?_
    obtain ⟨b', o', e, _, hc⟩ := hat i h2
    cases e
    rw [List.getElem_map, List.getElem_range, hc]
/-- What is left out: as many as are missing. -/
theorem wout_pos {a : Ar} {set : List Int} (hn : set.Nodup) (hs : ∀ x ∈ set, x ∈ usL a) : wout (usL a) set ≠ [] ↔ set.length < (usL a).length := by
  have h := wout_len (idxs_nodup usB a.m 0) hn hs
  have e : (idxs usB 0 a.m) = usL a := rfl
  rw [e] at h
  constructor
  · intro hne
    have : 0 < (wout (usL a) set).length := List.length_pos_iff.2 hne
    omega
  · intro hlt e
    rw [e] at h
    simp at h
    omega
def rchL (a : Ar) (o : Od) : List Int := if refE a o = 0 then choiceA a o else []
set_option maxRecDepth 100000 in
set_option maxHeartbeats 8000000 in
theorem rChoose_any (B : Nat) (A : Option Addr) (n c : Nat) (a : Ar) (o : Od) (w : World) (hM : MsAt w B A n a.m) (hB : B ≤ w.heap.size) (hn : n ≤ 17) (hE : armE a = 0) (ho : orderE o = 0) :
    Calls Tryz.prog 52 #[.agg #[.slice A n c, .int .i64 a.lo, .int .i64 a.hi, .int .i64 a.cur, .int .i64 a.lim], .agg #[.int .i64 o.n, .int .i64 o.c]] w (ChoRes w (refE a o) (rchL a o)) := by
  have hl := (md_at hM).1
  have hFit := fit_of hE
  have hoz := order_zero ho
  have HU := Lib.hid (fun W (hW : Below w.heap.size w W) => rUsable_any B A n c a W (hM.below (hW.mono hB)) (by have := hW.size; omega) (by omega))
  have hUS : usL a = idxs usB 0 a.m := rfl
  rw [← hUS] at HU
  have HOn := Lib.hid (fun W (hW : Below w.heap.size w W) => rOn_any B A n c a W (hM.below (hW.mono hB)) (by have := hW.size; omega) (by omega))
  have hOn : onL a = idxs (fun x => x.on) 0 a.m := rfl
  rw [← hOn] at HOn
  unfold IdRes at HU HOn
  have hul : (usL a).length ≤ n := by have := us_len_le a; omega
  have hol : (onL a).length ≤ n := by have := idxs_len (fun x : Md => x.on) a.m 0; rw [hl, ← hOn] at this; exact this
  have hin : ∀ x ∈ usL a, 0 ≤ x ∧ x < (n : Int) := fun x hx => by
    obtain ⟨j, hj, e, _⟩ := mem_idxs.1 hx
    omega
  have HIn := Lib.hid hin
  have hcur := hFit.cur
  have hlim := hFit.lim
  have HFit := Lib.hid hFit
  have HOz := Lib.hid (And.intro hE ho)
  have HMs := Lib.hid hM
  have hq1 : refE a o = if a.cur < absI o.c then 31 else if ((usL a).length : Int) < o.n then 18 else if a.lim < absI (o.n - (onL a).length) then 21 else 0 := by
    unfold refE
    rw [firstE_cons, firstE_cons, firstE_cons, firstE_nil]
    unfold or0 whenE
    by_cases c1 : a.cur < absI o.c <;> by_cases c2 : ((usL a).length : Int) < o.n <;> by_cases c3 : a.lim < absI (o.n - (onL a).length) <;> simp [c1, c2, c3]
  obtain ⟨er, her⟩ : ∃ er, refE a o = er := ⟨_, rfl⟩
  have HEr := Lib.hid her
  obtain ⟨rl, hrl⟩ : ∃ rl, rchL a o = rl := ⟨_, rfl⟩
  have HRl : Hid ((er = 0 → rl = choiceA a o) ∧ (er ≠ 0 → rl = [])) := Lib.hid (by
    rw [← hrl, ← her]
    unfold rchL
    exact ⟨fun h => by rw [if_pos h], fun h => by rw [if_neg h]⟩)
  rw [her, hrl]
  rw [her] at hq1
  clear hM hFit hUS hOn hin her hrl hE ho
  obtain ⟨us, hus⟩ : ∃ us, usL a = us := ⟨_, rfl⟩
  obtain ⟨s0, hs0⟩ : ∃ s0, onL a = s0 := ⟨_, rfl⟩
  have HUs := Lib.hid hus
  have HS0 := Lib.hid hs0
  rw [hus] at HU hul hq1 HIn
  rw [hs0] at HOn hol hq1
  clear hus hs0
  have hnc : IntKind.i64.wrap (0 - o.c) = 0 - o.c := by rw [IntKind.wrap_i64]; omega
  have hwd1 : IntKind.i64.wrap ((s0.length : Int) - o.n) = (s0.length : Int) - o.n := by rw [IntKind.wrap_i64]; omega
  have hwd2 : IntKind.i64.wrap (o.n - (s0.length : Int)) = o.n - (s0.length : Int) := by rw [IntKind.wrap_i64]; omega
  by_cases c1 : a.cur < absI o.c
  · rw [if_pos c1] at hq1
    subst hq1
    have erl := HRl.out.2 (by decide)
    subst erl
    have hc : a.cur < o.c ∨ (¬ a.cur < o.c ∧ a.cur < 0 - o.c) := by unfold absI at c1; omega
    clear HU HOn HMs hwd1 hwd2
    rcases hc with hc | ⟨hc0, hc⟩
    all_goals
      go_enter Tryz.func52, Tryz.ntmps52
      go_wp2_with fail
      go_ret2
      exact ⟨.slice none 0 0, rfl, World.ownsRow_nil _ _ _ _, fun _ => rfl, bl_⟩
  · rw [if_neg c1] at hq1
    have HQ1 := Lib.hid hq1
    clear hq1
    have hc1 : ¬ a.cur < o.c := by unfold absI at c1; omega
    have hc2 : ¬ a.cur < 0 - o.c := by unfold absI at c1; omega
    have HC1 := Lib.hid c1
    clear c1
    go_enter Tryz.func52, Tryz.ntmps52
    go_upto_region 3 with fail
    refine wp_world ?_
    intro W0 hW0
    have hb0 : Below w.heap.size w W0 := by rw [hW0]; exact bl_
    have bA0 : Blk W0 w.heap.size 26 #[.slice A n c, .int .i64 a.lo, .int .i64 a.hi, .int .i64 a.cur, .int .i64 a.lim] := by rw [hW0]; exact bk_
    have bO0 : Blk W0 (w.heap.size + 1) 68 #[.int .i64 o.n, .int .i64 o.c] := by rw [hW0]; exact bk_
    have hs0 : W0.heap.size = w.heap.size + 1 + 1 := by rw [hW0]; simp
    have HB0 := Lib.hid hb0
    have cA0 := bA0.cell
    have lA0 := bA0.lt
    have cO0 := bO0.cell
    have lO0 := bO0.lt
    clear hW0 hb0
    by_cases cq2 : (us.length : Int) < o.n
    · have hq1 := HQ1.out
      clear HQ1
      rw [if_pos cq2] at hq1
      subst hq1
      have erl := HRl.out.2 (by decide)
      subst erl
      have hd : decide ((us.length : Int) < o.n) = true := decide_eq_true cq2
      (refine wp_region_calm [] [0, 3, 4] 3 (by kernel_rfl) rfl (by kernel_rfl) (by kernel_rfl) (by kernel_rfl) ?_; simp only [pickB, List.filterMap_cons, List.filterMap_nil, List.getElem?_toArray, List.getElem?_cons_zero, List.getElem?_cons_succ]; (repeat (first | ((first | (with_reducible refine quietL_plain rfl (fun K hK => ?_)) | (with_reducible refine quietL_want (by with_unfolding_all rfl) (fun K hK => ?_))); (apply Exists.intro; refine ⟨fun wx hx => ?_, ?_⟩; (· (have hcx := ifs_ex hx); simp [go_sem, *, ↓IntWalk.iteOmega] <;> (first | rfl | exact ⟨rfl, rfl⟩ | skip)); (simp only [Act.put, List.setIfInBounds_toArray, List.set_cons_zero, List.set_cons_succ]; refine hK _ ?_; clear hK K))) | ((with_reducible refine quietL_skip (by with_unfolding_all rfl) ?_); simp only [Act.put, List.setIfInBounds_toArray, List.set_cons_zero, List.set_cons_succ]))); refine quietL_nil ?_)
      (refine anyB_one (i := 1) (by kernel_rfl) rfl rfl ?_; intro w1 hb1 K hK; have hs1 := hb1.size; (try simp at hs1); go_wp2_with fail)
      refine (HU.out _ (HB0.out.trans (hb1.mono (by omega)))).mono ?_
      rintro e w2 ⟨v2, rfl, hr2, hb2⟩
      obtain ⟨A2, c2, rfl, _, _, _⟩ := own_form hr2
      have hs2 := hb2.size
      clear hr2
      (go_wp2; refine ⟨xs_, ?_⟩)
      (refine anyB_quiet_at (by kernel_rfl) calm_panic xs_ 0 [2, 5] _ _ (by kernel_rfl) (by decide +kernel) ?_; simp only [pickB, List.filterMap_cons, List.filterMap_nil, List.getElem?_toArray, List.getElem?_cons_zero, List.getElem?_cons_succ]; (repeat (first | ((first | (with_reducible refine quietL_plain rfl (fun K hK => ?_)) | (with_reducible refine quietL_want (by with_unfolding_all rfl) (fun K hK => ?_))); (apply Exists.intro; refine ⟨fun wx hx => ?_, ?_⟩; (· (have hcx := ifs_ex hx); simp [go_sem, *, ↓IntWalk.iteOmega] <;> (first | rfl | exact ⟨rfl, rfl⟩ | fail)); (simp only [Act.put, List.setIfInBounds_toArray, List.set_cons_zero, List.set_cons_succ]; refine hK _ ?_; clear hK K))) | ((with_reducible refine quietL_skip (by with_unfolding_all rfl) ?_); simp only [Act.put, List.setIfInBounds_toArray, List.set_cons_zero, List.set_cons_succ]))); refine quietL_nil ?_)
      (refine anyB_end (by kernel_rfl) ?_; intro w3 hb3; have hs3 := hb3.size; (try simp at hs3); simp only [Calm])
      have hb3' := hb1.trans ((hb2.trans (hb3.mono hs2)).mono hb1.size)
      have bA3 := bA0.kept hb3'
      have bO3 := bO0.kept hb3'
      have HB3 := Lib.hid (HB0.out.trans (hb3'.mono (by omega)))
      clear cA0 lA0 cO0 lO0 bA0 bO0 hb3' HB0 hb1 hb2 hb3
      have cA3 := bA3.cell
      have lA3 := bA3.lt
      have cO3 := bO3.cell
      have lO3 := bO3.lt
      have hsz3 := HB3.out.size
      go_wp2_with fail
      go_ret2
      exact ⟨.slice none 0 0, rfl, World.ownsRow_nil _ _ _ _, fun _ => rfl, HB3.out⟩
    · have hq1 := HQ1.out
      clear HQ1
      rw [if_neg cq2] at hq1
      have HQ1 := Lib.hid hq1
      clear hq1
      have hd : decide ((us.length : Int) < o.n) = false := decide_eq_false cq2
      (refine wp_region_calm [] [0, 3, 4] 3 (by kernel_rfl) rfl (by kernel_rfl) (by kernel_rfl) (by kernel_rfl) ?_; simp only [pickB, List.filterMap_cons, List.filterMap_nil, List.getElem?_toArray, List.getElem?_cons_zero, List.getElem?_cons_succ]; (repeat (first | ((first | (with_reducible refine quietL_plain rfl (fun K hK => ?_)) | (with_reducible refine quietL_want (by with_unfolding_all rfl) (fun K hK => ?_))); (apply Exists.intro; refine ⟨fun wx hx => ?_, ?_⟩; (· (have hcx := ifs_ex hx); simp [go_sem, *, ↓IntWalk.iteOmega] <;> (first | rfl | exact ⟨rfl, rfl⟩ | skip)); (simp only [Act.put, List.setIfInBounds_toArray, List.set_cons_zero, List.set_cons_succ]; refine hK _ ?_; clear hK K))) | ((with_reducible refine quietL_skip (by with_unfolding_all rfl) ?_); simp only [Act.put, List.setIfInBounds_toArray, List.set_cons_zero, List.set_cons_succ]))); refine quietL_nil ?_)
      (refine anyB_one (i := 1) (by kernel_rfl) rfl rfl ?_; intro w1 hb1 K hK; have hs1 := hb1.size; (try simp at hs1); go_wp2_with fail)
      refine (HU.out _ (HB0.out.trans (hb1.mono (by omega)))).mono ?_
      rintro e w2 ⟨v2, rfl, hr2, hb2⟩
      obtain ⟨A2, c2, rfl, _, _, _⟩ := own_form hr2
      have hs2 := hb2.size
      clear hr2
      (go_wp2; refine ⟨xs_, ?_⟩)
      (refine anyB_quiet_at (by kernel_rfl) calm_panic xs_ 0 [2, 5] _ _ (by kernel_rfl) (by decide +kernel) ?_; simp only [pickB, List.filterMap_cons, List.filterMap_nil, List.getElem?_toArray, List.getElem?_cons_zero, List.getElem?_cons_succ]; (repeat (first | ((first | (with_reducible refine quietL_plain rfl (fun K hK => ?_)) | (with_reducible refine quietL_want (by with_unfolding_all rfl) (fun K hK => ?_))); (apply Exists.intro; refine ⟨fun wx hx => ?_, ?_⟩; (· (have hcx := ifs_ex hx); simp [go_sem, *, ↓IntWalk.iteOmega] <;> (first | rfl | exact ⟨rfl, rfl⟩ | fail)); (simp only [Act.put, List.setIfInBounds_toArray, List.set_cons_zero, List.set_cons_succ]; refine hK _ ?_; clear hK K))) | ((with_reducible refine quietL_skip (by with_unfolding_all rfl) ?_); simp only [Act.put, List.setIfInBounds_toArray, List.set_cons_zero, List.set_cons_succ]))); refine quietL_nil ?_)
      (refine anyB_end (by kernel_rfl) ?_; intro w3 hb3; have hs3 := hb3.size; (try simp at hs3); simp only [Calm])
      have hb3' := hb1.trans ((hb2.trans (hb3.mono hs2)).mono hb1.size)
      have bA3 := bA0.kept hb3'
      have bO3 := bO0.kept hb3'
      have HB3 := Lib.hid (HB0.out.trans (hb3'.mono (by omega)))
      clear cA0 lA0 cO0 lO0 bA0 bO0 hb3' HB0 hb1 hb2 hb3
      have cA3 := bA3.cell
      have lA3 := bA3.lt
      have cO3 := bO3.cell
      have lO3 := bO3.lt
      have hsz3 := HB3.out.size
      clear hd
      go_wp2_with fail
      refine (HOn.out _ HB3.out).mono ?_
      rintro e w4 ⟨v4, rfl, hr4, hb4⟩
      have hs4 := hb4.size
      have HI4 := Lib.hid (show RcI w A n c a o v4 s0 w4 from ⟨bA3.kept hb4, bO3.kept hb4, row_base hr4 (by omega), HB3.out.trans (hb4.mono (by omega)), by omega⟩)
      obtain ⟨A4, c4, rfl, _, _, _⟩ := own_form hr4
      clear hr4 hb4 cA3 lA3 cO3 lO3 bA3 bO3 HB3 HOn
      have cA4 := HI4.out.arm.cell
      have lA4 := HI4.out.arm.lt
      have cO4 := HI4.out.ord.cell
      have lO4 := HI4.out.ord.lt
      by_cases c3 : a.lim < absI (o.n - (s0.length : Int))
      · have hq1 := HQ1.out
        clear HQ1
        rw [if_pos c3] at hq1
        subst hq1
        have erl := HRl.out.2 (by decide)
        subst erl
        have hc : a.lim < max ((s0.length : Int) - o.n) (o.n - (s0.length : Int)) := by unfold absI at c3; omega
        rcases Int.lt_or_le ((s0.length : Int) - o.n) (o.n - (s0.length : Int)) with hm | hm
        · have hm2 : ¬ o.n - (s0.length : Int) < (s0.length : Int) - o.n := by omega
          have hd : a.lim < o.n - (s0.length : Int) := by omega
          clear hc c3
          go_wp2_with fail
          go_ret2
          exact ⟨.slice none 0 0, rfl, World.ownsRow_nil _ _ _ _, fun _ => rfl, HI4.out.low⟩
        · have hm2 : ¬ (s0.length : Int) - o.n < o.n - (s0.length : Int) := by omega
          have hd : a.lim < (s0.length : Int) - o.n := by omega
          clear hc c3
          go_wp2_with fail
          go_ret2
          exact ⟨.slice none 0 0, rfl, World.ownsRow_nil _ _ _ _, fun _ => rfl, HI4.out.low⟩
      · have hq1 := HQ1.out
        clear HQ1
        rw [if_neg c3] at hq1
        subst hq1
        have erl := HRl.out.1 rfl
        subst erl
        have HF := Lib.hid (chF HOz.out.1 HOz.out.2 HEr.out)
        have hn0 := HF.out.n0
        go_upto_region 6 with fail
        go_cut [43] (fun s43 wx => s43 = .bool false ∧ Below w4.heap.size w4 wx)
        case first =>
          as_aux_lemma =>
            have hab : absI (o.n - (s0.length : Int)) ≤ a.lim := by omega
            unfold absI at hab
            rcases Int.lt_or_le ((s0.length : Int) - o.n) (o.n - (s0.length : Int)) with hm | hm
            · have hm2 : ¬ o.n - (s0.length : Int) < (s0.length : Int) - o.n := by omega
              have hd : ¬ a.lim < o.n - (s0.length : Int) := by omega
              clear hab c3
              go_wp2_with fail
              go_meet
              case rel => exact ⟨by first | rfl | (simp; omega), Below.refl _ _⟩
            · have hm2 : ¬ (s0.length : Int) - o.n < o.n - (s0.length : Int) := by omega
              have hd : ¬ a.lim < (s0.length : Int) - o.n := by omega
              clear hab c3
              go_wp2_with fail
              go_meet
              case rel => exact ⟨by first | rfl | (simp; omega), Below.refl _ _⟩
        rename World => w5
        obtain ⟨rfl, hb5⟩ := hcut
        have HI5 := Lib.hid (HI4.out.kept hb5)
        clear HI4 hb5 cA4 lA4 cO4 lO4 hwd1 hwd2 c3 hc1 hc2 HC1
        have HBs := Lib.hid (fun W AL nl cl l (hW : Below w.heap.size w W) (hL : Reads W W.heap.size 1 AL nl (l.map (.int .i64))) (hnl : nl ≤ 400) (hne : l ≠ []) (hin : ∀ x ∈ l, 0 ≤ x ∧ x < (n : Int)) => rbest_any B A n c a AL nl cl l o.c W (HMs.out.below (hW.mono hB)) (by have := hW.size; omega) (by omega) hL hnl hne hin)
        have HWs := Lib.hid (fun W AL nl cl l (hW : Below w.heap.size w W) (hL : Reads W W.heap.size 1 AL nl (l.map (.int .i64))) (hnl : nl ≤ 400) (hne : l ≠ []) (hin : ∀ x ∈ l, 0 ≤ x ∧ x < (n : Int)) => rworst_any B A n c a AL nl cl l o.c W (HMs.out.below (hW.mono hB)) (by have := hW.size; omega) (by omega) hL hnl hne hin)
        have HWo := Lib.hid (fun W A1 n1 c1 A2 n2 c2 (l q : List Int) (h1 : Reads W W.heap.size 1 A1 n1 (l.map (.int .i64))) (h2 : Reads W W.heap.size 1 A2 n2 (q.map (.int .i64))) (hn1 : n1 ≤ 400) (hn2 : n2 ≤ 400) => without_any W.heap.size W.heap.size A1 A2 n1 c1 n2 c2 l q W h1 h2 (Nat.le_refl _) (Nat.le_refl _) hn1 hn2)
        unfold IdRes at HWo
        go_upto_block 0 with fail
        go_cut [6] (fun s6 wx => ∃ A6 c6 set, s6 = .slice A6 set.length c6 ∧ Hid (RcI w A n c a o (.slice A6 set.length c6) set wx) ∧ Hid (POut a o set))
        case first =>
          as_aux_lemma =>
            go_wp2_with fail
            go_loopw [6] (fun s6 wr => ∃ A6 c6 set, s6 = .slice A6 set.length c6 ∧ Hid (RcI w A n c a o (.slice A6 set.length c6) set wr) ∧ Hid (PIn a o set)) (fun s6 _ => o.n.toNat - slLen s6)
            case atStart => exact ⟨A4, c4, s0, rfl, HI5, Lib.hid (by rw [← HS0.out]; exact PIn.start HF.out)⟩
            case round =>
              clear HI5
              obtain ⟨A6, c6, set, rfl, HC, HP⟩ := hrel
              have hsl := HP.out.len HF.out
              have cA := HC.out.arm.cell
              have lA := HC.out.arm.lt
              have cO := HC.out.ord.cell
              have lO := HC.out.ord.lt
              have hle := HC.out.le
              by_cases hlt : set.length < o.n.toNat
              · have h1 : (set.length : Int) < o.n := by omega
                obtain ⟨_, _, _, hP'⟩ := HP.out.step HF.out hlt
                have hne := (HP.out.add (HP.out.lt hlt)).ne HF.out.ndU HF.out.nU hlt
                have hwl := wout_len_le (usL a) set
                have hwi : ∀ x ∈ wout (usL a) set, x ∈ usL a := fun x hx => (mem_wout.1 hx).1
                rw [HUs.out] at hP' hne hwl hwi
                have HP' := Lib.hid hP'
                have HWi := Lib.hid (fun x hx => HIn.out x (hwi x hx))
                have HNe := Lib.hid hne
                obtain ⟨g0, hg00⟩ : ∃ g0, (Value.slice A6 set.length c6).ownBlock.getD (w.heap.size + 1 + 1) = g0 := ⟨_, rfl⟩
                have hg0 := Lib.hid hg00
                have hg0l : w.heap.size + 1 + 1 ≤ g0 := by
                  rw [← hg00]
                  cases hob : (Value.slice A6 set.length c6).ownBlock with
                  | none => exact Nat.le_refl _
                  | some r => exact (row_base_lt HC.out.row r hob).1
                clear hg00 hP' hne hwi
                obtain ⟨out, hout⟩ : ∃ out, wout us set = out := ⟨_, rfl⟩
                have HOut := Lib.hid hout
                rw [hout] at hwl HWi HNe
                clear hout
                go_wp2_with fail
                (refine wp_region_calm [g0] [0, 1, 2, 4, 6, 7] 6 (by kernel_rfl) rfl (by kernel_rfl) (by kernel_rfl) (by kernel_rfl) ?_; simp only [pickB, List.filterMap_cons, List.filterMap_nil, List.getElem?_toArray, List.getElem?_cons_zero, List.getElem?_cons_succ]; (repeat (first | ((first | (with_reducible refine quietL_plain rfl (fun K hK => ?_)) | (with_reducible refine quietL_want (by with_unfolding_all rfl) (fun K hK => ?_))); (apply Exists.intro; refine ⟨fun wx hx => ?_, ?_⟩; (· (have hcx := ifs_ex hx); simp [go_sem, *, ↓IntWalk.iteOmega] <;> (first | rfl | exact ⟨rfl, rfl⟩ | skip)); (simp only [Act.put, List.setIfInBounds_toArray, List.set_cons_zero, List.set_cons_succ]; refine hK _ ?_; clear hK K))) | ((with_reducible refine quietL_skip (by with_unfolding_all rfl) ?_); simp only [Act.put, List.setIfInBounds_toArray, List.set_cons_zero, List.set_cons_succ]))); refine quietL_nil ?_)
                (refine anyB_one (i := 3) (by kernel_rfl) rfl rfl ?_; intro w11 hb11 K hK; have hs11 := hb11.size; (try simp at hs11); go_wp2_with fail)
                refine (HU.out _ (HC.out.low.trans (hb11.mono HC.out.low.size))).mono ?_
                rintro e w12 ⟨v12, rfl, hr12, hb12⟩
                obtain ⟨A12, c12, rfl, _, _, hrd12⟩ := own_form hr12
                have HR12 := Lib.hid hrd12
                have hs12 := hb12.size
                clear hr12 hrd12
                (go_wp2; refine ⟨xs_, ?_⟩)
                (refine anyB_one (i := 5) (by kernel_rfl) rfl rfl ?_; intro w13 hb13 K hK; have hs13 := hb13.size; (try simp at hs13); go_wp2_with fail)
                have HC13 := Lib.hid (((HC.out.kept hb11).kept hb12).kept hb13)
                obtain ⟨A6', c6', e6, _, _, hrd13⟩ := own_form HC13.out.row
                cases e6
                refine (HWo.out _ _ _ c12 _ _ c6 us set ((HR12.out.below hb13).more hb13.size) hrd13 (by omega) (by omega)).mono ?_
                rintro e w14 ⟨v14, rfl, hr14, hb14⟩
                rw [HOut.out] at hr14
                obtain ⟨A14, c14, rfl, _, _, hrd14⟩ := own_form hr14
                have HC14 := Lib.hid (HC13.out.kept hb14)
                have HR14 := Lib.hid hrd14
                have hs14 := hb14.size
                clear hr14 hrd14 HC13 HR12
                (go_wp2; refine ⟨xs_, ?_⟩)
                (refine anyB_one (i := 8) (by kernel_rfl) rfl rfl ?_; intro w15 hb15 K hK; have hs15 := hb15.size; (try simp at hs15); go_wp2_with fail)
                refine (HBs.out _ A14 out.length c14 out (HC14.out.low.trans (hb15.mono HC14.out.low.size)) ((HR14.out.below hb15).more hb15.size) (by omega) HNe.out HWi.out).mono ?_
                rintro e w16 ⟨rfl, hb16⟩
                have hs16 := hb16.size
                have HC16 := Lib.hid ((HC14.out.kept hb15).kept hb16)
                clear HC14 HR14
                rw [HOut.out] at HP'
                generalize bestL (ckA a o.c) out = x at *
                (go_wp2; refine ⟨xs_, ?_⟩)
                (refine anyB_one (i := 9) (by kernel_rfl) rfl rfl ?_; intro w17 hb17 K hK; have hs17 := hb17.size; (try simp at hs17); go_wp2; refine ⟨xs_, ?_⟩)
                refine anyB_one (i := 10) (by kernel_rfl) rfl rfl ?_
                intro w18 hb18 K hK
                have hla : Below w17.heap.size w17 (w17.alloc (.cells #[.int .i64 x] 3)) := (Below.refl _ _).alloc (Nat.le_refl _) _
                have HC18 := Lib.hid (((HC16.out.kept hb17).kept hla).kept hb18)
                have hB18 : Below wr.heap.size wr w18 := bl_
                have hrow18 := HC18.out.row
                refine wp_appB 29 3 1 8 elemInt (.tmp 49) (.tmp 58) rfl (w.heap.size + 1 + 1) (.slice A6 set.length c6) set.length _ rfl hrow18 w17.heap.size 1 #[.int .i64 x] rfl ((Blk.new w17 _ _).kept hb18) rfl ?_ (by decide) ?_ ?_ ?_ ?_
                · intro u hu; simp at hu; subst hu; rfl
                · unfold maxLen; omega
                · omega
                · exact HC18.out.le
                intro g6 cap6 w19 hO6 hg6 _
                obtain ⟨h89, hk89⟩ := app_keeps hrow18 HC18.out.le hg6
                have hX : Ex [g0] wr w19 := (Ex.of_below hB18).trans (Ex.of_grown hg6 (fun r e => by rw [← hg0.out, e]; simp))
                refine hK _ _ ⟨hX, ?_⟩
                clear hK K
                refine anyB_one (i := 11) (by kernel_rfl) rfl rfl ?_
                intro w20 hb20 K hK
                go_wp2
                refine ⟨hX.grown hb20, ?_⟩
                refine anyB_end (by kernel_rfl) ?_
                intro w21 hb21
                simp only [Calm]
                have eL : (set ++ [x]).length = set.length + 1 := by simp
                have HN := Lib.hid (((HC18.out.put h89 hk89 (set' := set ++ [x]) (v' := .slice (some ⟨g6, 0, none⟩) (set.length + 1) cap6) (by rw [List.length_append, List.map_append]; exact hO6)).kept hb20).kept hb21)
                rw [← eL] at HN
                clear hX h89 hk89 hO6 hg6 hrow18 hB18 hla hb11 hb12 hb13 hb14 hb15 hb16 hb17 hb18 hb20 hb21 HC18 HC16
                go_wp2_with fail
                go_roundw
                case rel => exact ⟨some ⟨g6, 0, none⟩, cap6, set ++ [x], by rw [eL], HN, HP'⟩
                case measure => simp [slLen]; omega
              · have h1 : ¬ (set.length : Int) < o.n := by omega
                go_wp2_with fail
                go_meet
                case rel => exact ⟨A6, c6, set, rfl, HC, Lib.hid (HP.out.fin HF.out hlt)⟩
        rename World => w6
        obtain ⟨A6, c6, set1, rfl, HC6, HP6⟩ := hcut
        clear HI5 HBs
        go_upto_block 2 with fail
        go_cut [6] (fun s6 wx => ∃ A6 c6 set, s6 = .slice A6 set.length c6 ∧ Hid (RcI w A n c a o (.slice A6 set.length c6) set wx) ∧ Hid (set = firstSet (ckA a o.c) (usL a) (onL a) o.n.toNat))
        case first =>
          as_aux_lemma =>
            have cA6 := HC6.out.arm.cell
            have lA6 := HC6.out.arm.lt
            go_wp2_with fail
            go_loopw [6] (fun s6 wr => ∃ A6 c6 set, s6 = .slice A6 set.length c6 ∧ Hid (RcI w A n c a o (.slice A6 set.length c6) set wr) ∧ Hid (POut a o set)) (fun s6 _ => slLen s6)
            case atStart => exact ⟨A6, c6, set1, rfl, HC6, HP6⟩
            case round =>
              clear HC6 HP6 cA6 lA6
              obtain ⟨A7, c7, set, rfl, HC, HP⟩ := hrel
              have hsl := HP.out.len HF.out
              have cA := HC.out.arm.cell
              have lA := HC.out.arm.lt
              have cO := HC.out.ord.cell
              have lO := HC.out.ord.lt
              have hle := HC.out.le
              by_cases hlt : o.n.toNat < set.length
              · have h1 : o.n < (set.length : Int) := by omega
                obtain ⟨_, hwl, hP'⟩ := HP.out.step HF.out hlt
                have hsub := (HP.out.del (HP.out.lt HF.out hlt)).fair.sub
                rw [HUs.out] at hsub
                have hne : set ≠ [] := by intro e; rw [e] at hlt; simp at hlt
                obtain ⟨A7', c7', e7, _, _, hrd⟩ := own_form HC.out.row
                cases e7
                have HR := Lib.hid hrd
                have HP' := Lib.hid hP'
                have HIs := Lib.hid (fun x hx => HIn.out x (hsub x hx))
                have HNe := Lib.hid hne
                clear hrd hP' hsub hne
                go_wp2_with fail
                refine (HWs.out _ A7 set.length c7 set HC.out.low HR.out (by omega) HNe.out HIs.out).mono ?_
                rintro e w1 ⟨rfl, hb1⟩
                generalize worstL (ckA a o.c) set = x at *
                have hla : Below w1.heap.size w1 (w1.alloc (.cells #[.int .i64 x] 3)) := (Below.refl _ _).alloc (Nat.le_refl _) _
                have HCa := Lib.hid ((HC.out.kept hb1).kept hla)
                have HRa := Lib.hid ((((HR.out.below hb1).more hb1.size).below hla).more hla.size)
                have HRl : Hid (Reads (w1.alloc (.cells #[.int .i64 x] 3)) (w1.alloc (.cells #[.int .i64 x] 3)).heap.size 1 (some ⟨w1.heap.size, 0, none⟩) 1 ([x].map (.int .i64))) := Lib.hid (by simpa using Reads.new (size := 1) w1 #[.int .i64 x] 3 1 rfl)
                clear hb1 hla cA lA cO lO HR
                go_wp2_with fail
                refine (HWo.out _ A7 set.length c7 (some ⟨w1.heap.size, 0, none⟩) 1 1 set [x] HRa.out HRl.out (by omega) (by omega)).mono ?_
                rintro e w2 ⟨v2, rfl, hr2, hb2⟩
                obtain ⟨A2, c2, rfl, _, _, _⟩ := own_form hr2
                have HCb := Lib.hid (HCa.out.kept hb2)
                have HN := Lib.hid (show RcI w A n c a o (.slice A2 (wout set [x]).length c2) (wout set [x]) w2 from ⟨HCb.out.arm, HCb.out.ord, row_base hr2 HCa.out.le, HCb.out.low, HCb.out.le⟩)
                clear hr2 hb2 HCa HCb HRa HRl
                go_wp2_with fail
                go_roundw
                case rel => exact ⟨A2, c2, wout set [x], rfl, HN, HP'⟩
                case measure => simp [slLen]; omega
              · have h1 : ¬ o.n < (set.length : Int) := by omega
                go_wp2_with fail
                go_meet
                case rel => exact ⟨A7, c7, set, rfl, HC, Lib.hid (HP.out.fin HF.out hlt)⟩
        rename World => w20
        obtain ⟨A20, c20, set2, rfl, HC20, hset2⟩ := hcut
        clear HC6 HP6
        go_upto_block 4 with fail
        go_cut [6] (fun s6 wx => ∃ A6 c6, s6 = .slice A6 (setU a o).length c6 ∧ Hid (RcI w A n c a o (.slice A6 (setU a o).length c6) (setU a o) wx))
        case first =>
          as_aux_lemma =>
            have HX20 := Lib.hid (ex_start HF.out hset2.out)
            have HBs := Lib.hid (fun W AL nl cl l (hW : Below w.heap.size w W) (hL : Reads W W.heap.size 1 AL nl (l.map (.int .i64))) (hnl : nl ≤ 400) (hne : l ≠ []) (hin : ∀ x ∈ l, 0 ≤ x ∧ x < (n : Int)) => rbest_any B A n c a AL nl cl l o.c W (HMs.out.below (hW.mono hB)) (by have := hW.size; omega) (by omega) hL hnl hne hin)
            have HCg := Lib.hid (fun W AL nl cl (l : List Int) (hW : Below w.heap.size w W) (hL : Reads W W.heap.size 1 AL nl (l.map (.int .i64))) (hnl : nl ≤ 400) => rChanges_any B W.heap.size A AL n c nl cl a l W (HMs.out.below (hW.mono hB)) (by have := hW.size; omega) (by omega) hL (Nat.le_refl _) hnl)
            have cA6 := HC20.out.arm.cell
            have lA6 := HC20.out.arm.lt
            go_wp2_with fail
            go_loopw [6] (fun s6 wr => ∃ A6 c6 set f, s6 = .slice A6 set.length c6 ∧ Hid (RcI w A n c a o (.slice A6 set.length c6) set wr) ∧ Hid (ExI (ckA a o.c) (usL a) (onL a) o.n.toNat a.lim f set)) (fun s6 wr => (a.lim - (chgN (onL a) (readI s6 wr) : Int)).toNat)
            case atStart => exact ⟨A20, c20, set2, _, rfl, HC20, HX20⟩
            case round =>
              clear HC20 hset2 HX20 cA6 lA6
              obtain ⟨A7, c7, set, f, rfl, HC, HX⟩ := hrel
              have hsl : set.length ≤ 16 := by have := HX.out.len; omega
              have cA := HC.out.arm.cell
              have lA := HC.out.arm.lt
              have cO := HC.out.ord.cell
              have lO := HC.out.ord.lt
              have hle := HC.out.le
              have HSt := Lib.hid (fun hg => (HX.out.stop hg : setU a o = set))
              have HG := Lib.hid (goB_iff (c := ckA a o.c) (U := usL a) (set := set) (lim := a.lim) (ch := chgN (onL a) set))
              have HWp := Lib.hid (wout_pos HX.out.fair.nd HX.out.fair.sub)
              obtain ⟨A7', c7', e7, _, _, hrd⟩ := own_form HC.out.row
              cases e7
              have HR := Lib.hid hrd
              have HRe := Lib.hid (readI_eq (c := c7) hrd)
              clear hrd
              by_cases hs : set = []
              · subst hs
                have HFin : Hid (setU a o = []) := Lib.hid (HSt.out (by unfold goB; simp))
                clear HSt HG HWp HX HR HRe
                go_wp2_with fail
                (refine wp_region_calm [] [0, 1, 2, 3, 4, 5, 6, 7, 8, 9, 10, 11, 12, 13, 14, 15, 16, 17, 18, 19] 0 (by kernel_rfl) rfl (by kernel_rfl) (by kernel_rfl) (by kernel_rfl) ?_; simp only [pickB, List.filterMap_cons, List.filterMap_nil, List.getElem?_toArray, List.getElem?_cons_zero, List.getElem?_cons_succ]; (repeat (first | ((first | (with_reducible refine quietL_plain rfl (fun K hK => ?_)) | (with_reducible refine quietL_want (by with_unfolding_all rfl) (fun K hK => ?_))); (apply Exists.intro; refine ⟨fun wx hx => ?_, ?_⟩; (· (have hcx := ifs_ex hx); simp [go_sem, *, ↓IntWalk.iteOmega] <;> (first | rfl | exact ⟨rfl, rfl⟩ | fail)); (simp only [Act.put, List.setIfInBounds_toArray, List.set_cons_zero, List.set_cons_succ]; refine hK _ ?_; clear hK K))) | ((with_reducible refine quietL_skip (by with_unfolding_all rfl) ?_); simp only [Act.put, List.setIfInBounds_toArray, List.set_cons_zero, List.set_cons_succ]))); refine quietL_nil ?_)
                (refine anyB_end (by kernel_rfl) ?_; intro w41 hb41; have hs41 := hb41.size; (try simp at hs41); simp only [Calm])
                have HC' := Lib.hid (HC.out.kept hb41)
                clear hb41
                go_wp2_with fail
                go_meet
                case rel => exact ⟨A7, c7, by rw [HFin.out], by rw [HFin.out]; exact HC'⟩
              · have hpos : (0 : Int) < (set.length : Int) := by
                  have : 0 < set.length := List.length_pos_iff.2 hs
                  omega
                have hpos2 : 0 < set.length := by omega
                go_wp2_with fail
                (refine wp_region_calm [] [0, 1, 2, 3, 4, 5, 6] 13 (by kernel_rfl) rfl (by kernel_rfl) (by kernel_rfl) (by kernel_rfl) ?_; simp only [pickB, List.filterMap_cons, List.filterMap_nil, List.getElem?_toArray, List.getElem?_cons_zero, List.getElem?_cons_succ]; (repeat (first | ((first | (with_reducible refine quietL_plain rfl (fun K hK => ?_)) | (with_reducible refine quietL_want (by with_unfolding_all rfl) (fun K hK => ?_))); (apply Exists.intro; refine ⟨fun wx hx => ?_, ?_⟩; (· (have hcx := ifs_ex hx); simp [go_sem, *, ↓IntWalk.iteOmega] <;> (first | rfl | exact ⟨rfl, rfl⟩ | fail)); (simp only [Act.put, List.setIfInBounds_toArray, List.set_cons_zero, List.set_cons_succ]; refine hK _ ?_; clear hK K))) | ((with_reducible refine quietL_skip (by with_unfolding_all rfl) ?_); simp only [Act.put, List.setIfInBounds_toArray, List.set_cons_zero, List.set_cons_succ]))); refine quietL_nil ?_)
                (refine anyB_one_want (i := 7) (by kernel_rfl) rfl (by kernel_rfl) ?_; intro w11 hb11 K hK; have hs11 := hb11.size; (try simp at hs11); go_wp2_with fail)
                refine (HU.out _ (HC.out.low.trans (hb11.mono HC.out.low.size))).mono ?_
                rintro e w12 ⟨v12, rfl, hr12, hb12⟩
                obtain ⟨A12, c12, rfl, _, _, _⟩ := own_form hr12
                have hs12 := hb12.size
                clear hr12
                (go_wp2; refine ⟨xs_, ?_⟩)
                by_cases hlt : set.length < us.length
                · have hlt' : (set.length : Int) < (us.length : Int) := by omega
                  (refine anyB_quiet_at (by kernel_rfl) calm_panic xs_ 4 [8, 9, 10, 11, 12, 13, 16, 17] _ _ (by kernel_rfl) (by decide +kernel) ?_; simp only [pickB, List.filterMap_cons, List.filterMap_nil, List.getElem?_toArray, List.getElem?_cons_zero, List.getElem?_cons_succ]; (repeat (first | ((first | (with_reducible refine quietL_plain rfl (fun K hK => ?_)) | (with_reducible refine quietL_want (by with_unfolding_all rfl) (fun K hK => ?_))); (apply Exists.intro; refine ⟨fun wx hx => ?_, ?_⟩; (· (have hcx := ifs_ex hx); simp [go_sem, *, ↓IntWalk.iteOmega] <;> (first | rfl | exact ⟨rfl, rfl⟩ | fail)); (simp only [Act.put, List.setIfInBounds_toArray, List.set_cons_zero, List.set_cons_succ]; refine hK _ ?_; clear hK K))) | ((with_reducible refine quietL_skip (by with_unfolding_all rfl) ?_); simp only [Act.put, List.setIfInBounds_toArray, List.set_cons_zero, List.set_cons_succ]))); refine quietL_nil ?_)
                  (refine anyB_one_want (i := 14) (by kernel_rfl) rfl (by kernel_rfl) ?_; intro w13 hb13 K hK; have hs13 := hb13.size; (try simp at hs13); go_wp2_with fail)
                  have h113 : Below wr.heap.size wr w13 := bl_
                  have HC13 := Lib.hid (HC.out.kept h113)
                  refine (HCg.out _ A7 set.length c7 set HC13.out.low ((HR.out.below h113).more h113.size) (by omega)).mono ?_
                  rintro e w14 ⟨rfl, hb14⟩
                  have hs14 := hb14.size
                  (go_wp2; refine ⟨xs_, ?_⟩)
                  have hcb : chgN (onL a) set ≤ 400 := by
                    have h1 := wout_len_le (onL a) set
                    have h2 := wout_len_le set (onL a)
                    have h3 : chgN (onL a) set = (wout (onL a) set).length + (wout set (onL a)).length := rfl
                    rw [HS0.out] at h1 h2 h3 ⊢
                    omega
                  obtain ⟨ch, hch⟩ : ∃ ch, chgN (onL a) set = ch := ⟨_, rfl⟩
                  rw [hch] at hcb HG
                  have HCh := Lib.hid hch
                  clear hch
                  have hw2 : IntKind.i64.wrap ((ch : Int) + 2) = (ch : Int) + 2 := by rw [IntKind.wrap_i64]; omega
                  rw [HCh.out]
                  by_cases hl2 : (ch : Int) + 2 ≤ a.lim
                  · (refine anyB_quiet_at (by kernel_rfl) calm_panic xs_ 0 [15, 18, 19] _ _ (by kernel_rfl) (by decide +kernel) ?_; simp only [pickB, List.filterMap_cons, List.filterMap_nil, List.getElem?_toArray, List.getElem?_cons_zero, List.getElem?_cons_succ]; (repeat (first | ((first | (with_reducible refine quietL_plain rfl (fun K hK => ?_)) | (with_reducible refine quietL_want (by with_unfolding_all rfl) (fun K hK => ?_))); (apply Exists.intro; refine ⟨fun wx hx => ?_, ?_⟩; (· (have hcx := ifs_ex hx); simp [go_sem, *, ↓IntWalk.iteOmega] <;> (first | rfl | exact ⟨rfl, rfl⟩ | fail)); (simp only [Act.put, List.setIfInBounds_toArray, List.set_cons_zero, List.set_cons_succ]; refine hK _ ?_; clear hK K))) | ((with_reducible refine quietL_skip (by with_unfolding_all rfl) ?_); simp only [Act.put, List.setIfInBounds_toArray, List.set_cons_zero, List.set_cons_succ]))); refine quietL_nil ?_)
                    (refine anyB_end (by kernel_rfl) ?_; intro w15 hb15; have hs15 := hb15.size; (try simp at hs15); simp only [Calm])
                    have h115 : Below wr.heap.size wr w15 := bl_
                    have HC15 := Lib.hid (HC.out.kept h115)
                    have HR15 := Lib.hid ((HR.out.below h115).more h115.size)
                    clear HC13 HC HR h113 h115 hb11 hb12 hb13 hb14 hb15 hs11 hs12 hs13 hs14 hs15 cA lA cO lO
                    have cA := HC15.out.arm.cell
                    have lA := HC15.out.arm.lt
                    have cO := HC15.out.ord.cell
                    have lO := HC15.out.ord.lt
                    have hne := HWp.out.2 (by rw [HUs.out]; exact hlt)
                    have hset : set ≠ [] := by intro e; rw [e] at hpos2; simp at hpos2
                    have hm1 := (bestL_spec (c := ckA a o.c) hne).1
                    have hm2 := (worstL_spec (c := ckA a o.c) hset).1
                    obtain ⟨k, ek, hk⟩ := us_nat (mem_wout.1 hm1).1
                    obtain ⟨j, ej, hj⟩ := us_nat (HX.out.fair.sub _ hm2)
                    have hg2 := HG.out
                    rw [ek, ej, ckA_q hk, ckA_q hj] at hg2
                    have hstp := fun hg => HX.out.step HF.out.ndO HF.out.sub hg
                    rw [ek, ej] at hstp
                    rw [HUs.out] at hne ek hg2
                    have hsub := HX.out.fair.sub
                    rw [HUs.out] at hsub
                    have HG2 := Lib.hid hg2
                    have HSp := Lib.hid hstp
                    have HNe := Lib.hid hne
                    have HNs := Lib.hid hset
                    have HIo := Lib.hid (fun x (hx : x ∈ wout us set) => HIn.out x ((mem_wout.1 hx).1))
                    have HIs := Lib.hid (fun x hx => HIn.out x (hsub x hx))
                    have hwl := wout_len_le us set
                    obtain ⟨_, hatM⟩ := md_at (HMs.out.below (HC15.out.low.mono hB))
                    obtain ⟨bm, om, eA, hbm, _, z1, _, _⟩ := hatM k hk
                    obtain ⟨bm', om', eA', _, _, y1, _, _⟩ := hatM j hj
                    rw [eA] at eA'
                    cases eA'
                    subst eA
                    have HZ := Lib.hid z1
                    have HY := Lib.hid y1
                    have hkn : k < n := by omega
                    have hjn : j < n := by omega
                    have hbm1 : bm < w15.heap.size := by have := HC15.out.low.size; omega
                    clear hatM z1 y1 hg2 hstp hne hset hsub hm1 hm2 HG HX HWp hlt hlt'
                    generalize (a.m[k]).q = qk at *
                    generalize (a.m[j]).q = qj at *
                    have HEk := Lib.hid ek
                    have HEj := Lib.hid ej
                    clear ek ej
                    as_aux_lemma =>
                      go_wp2_with fail
                      (refine wp_region_calm [] [0, 1, 3, 5, 6, 8, 9, 10, 11] 6 (by kernel_rfl) rfl (by kernel_rfl) (by kernel_rfl) (by kernel_rfl) ?_; simp only [pickB, List.filterMap_cons, List.filterMap_nil, List.getElem?_toArray, List.getElem?_cons_zero, List.getElem?_cons_succ]; (repeat (first | ((first | (with_reducible refine quietL_plain rfl (fun K hK => ?_)) | (with_reducible refine quietL_want (by with_unfolding_all rfl) (fun K hK => ?_))); (apply Exists.intro; refine ⟨fun wx hx => ?_, ?_⟩; (· (have hcx := ifs_ex hx); simp [go_sem, *, ↓IntWalk.iteOmega] <;> (first | rfl | exact ⟨rfl, rfl⟩ | fail)); (simp only [Act.put, List.setIfInBounds_toArray, List.set_cons_zero, List.set_cons_succ]; refine hK _ ?_; clear hK K))) | ((with_reducible refine quietL_skip (by with_unfolding_all rfl) ?_); simp only [Act.put, List.setIfInBounds_toArray, List.set_cons_zero, List.set_cons_succ]))); refine quietL_nil ?_)
                      (refine anyB_one (i := 2) (by kernel_rfl) rfl rfl ?_; intro w21 hb21 K hK; have hs21 := hb21.size; (try simp at hs21); go_wp2_with fail)
                      refine (HU.out _ (HC15.out.low.trans (hb21.mono HC15.out.low.size))).mono ?_
                      rintro e w22 ⟨v22, rfl, hr22, hb22⟩
                      obtain ⟨A22, c22, rfl, _, _, hrd22⟩ := own_form hr22
                      have HR22 := Lib.hid hrd22
                      have hs22 := hb22.size
                      clear hr22 hrd22
                      (go_wp2; refine ⟨xs_, ?_⟩)
                      (refine anyB_one (i := 4) (by kernel_rfl) rfl rfl ?_; intro w23 hb23 K hK; have hs23 := hb23.size; (try simp at hs23); go_wp2_with fail)
                      have h23 : Below w15.heap.size w15 w23 := bl_
                      refine (HWo.out _ A22 us.length c22 A7 set.length c7 us set ((HR22.out.below hb23).more hb23.size) ((HR15.out.below h23).more h23.size) (by omega) (by omega)).mono ?_
                      rintro e w24 ⟨v24, rfl, hr24, hb24⟩
                      obtain ⟨A24, c24, rfl, _, _, hrd24⟩ := own_form hr24
                      have HR24 := Lib.hid hrd24
                      have hs24 := hb24.size
                      clear hr24 hrd24 HR22
                      (go_wp2; refine ⟨xs_, ?_⟩)
                      (refine anyB_one (i := 7) (by kernel_rfl) rfl rfl ?_; intro w25 hb25 K hK; have hs25 := hb25.size; (try simp at hs25); go_wp2_with fail)
                      have h25 : Below w15.heap.size w15 w25 := h23.trans ((hb24.trans (hb25.mono hs24)).mono h23.size)
                      refine (HBs.out _ A24 (wout us set).length c24 (wout us set) (HC15.out.low.trans (h25.mono HC15.out.low.size)) ((HR24.out.below hb25).more hb25.size) (by omega) HNe.out HIo.out).mono ?_
                      rw [HEk.out]
                      rintro e w26 ⟨rfl, hb26⟩
                      have hs26 := hb26.size
                      clear HR24
                      (go_wp2; refine ⟨xs_, ?_⟩)
                      (refine anyB_one (i := 12) (by kernel_rfl) rfl rfl ?_; intro w27 hb27 K hK; have hs27 := hb27.size; (try simp at hs27); go_wp2_with fail)
                      have h27 : Below w15.heap.size w15 w27 := h25.trans ((hb26.trans (hb27.mono hs26)).mono h25.size)
                      refine (HWs.out _ A7 set.length c7 set (HC15.out.low.trans (h27.mono HC15.out.low.size)) ((HR15.out.below h27).more h27.size) (by omega) HNs.out HIs.out).mono ?_
                      rw [HEj.out]
                      rintro e w28 ⟨rfl, hb28⟩
                      have hs28 := hb28.size
                      (go_wp2; refine ⟨xs_, ?_⟩)
                      (refine anyB_one (i := 13) (by kernel_rfl) rfl rfl ?_; intro w29 hb29 K hK; have hs29 := hb29.size; (try simp at hs29); go_wp2; refine ⟨xs_, ?_⟩)
                      (refine anyB_one (i := 14) (by kernel_rfl) rfl rfl ?_; intro w30 hb30 K hK; have hs30 := hb30.size; (try simp at hs30); go_wp2; refine ⟨xs_, ?_⟩)
                      (refine anyB_end (by kernel_rfl) ?_; intro w31 hb31; have hs31 := hb31.size; (try simp at hs31); simp only [Calm])
                      have h31 : Below w15.heap.size w15 w31 := h27.trans ((hb28.trans ((hb29.trans ((hb30.trans (hb31.mono hb30.size)).mono hb29.size)).mono hs28)).mono h27.size)
                      have HC31 := Lib.hid (HC15.out.kept h31)
                      have HR31 := Lib.hid ((HR15.out.below h31).more h31.size)
                      have z1 := (h31.cell (p := ⟨bm, om + k * 4 + 1, none⟩) hbm1).trans HZ.out
                      have y1 := (h31.cell (p := ⟨bm, om + j * 4 + 1, none⟩) hbm1).trans HY.out
                      have hs31 := h31.size
                      have hbm31 : bm < w31.heap.size := by omega
                      clear h23 h25 h27 h31 hb21 hb22 hb23 hb24 hb25 hb26 hb27 hb28 hb29 hb30 hb31 HZ HY cA lA cO lO HC15 HR15
                      have cA := HC31.out.arm.cell
                      have lA := HC31.out.arm.lt
                      have cO := HC31.out.ord.cell
                      have lO := HC31.out.ord.lt
                      as_aux_lemma =>
                        go_wp2_with fail
                        (refine wp_region_calm [] [0, 1, 2, 3, 4, 5, 6, 7, 8, 9, 10, 11, 12, 13, 14, 15] 0 (by kernel_rfl) rfl (by kernel_rfl) (by kernel_rfl) (by kernel_rfl) ?_; simp only [pickB, List.filterMap_cons, List.filterMap_nil, List.getElem?_toArray, List.getElem?_cons_zero, List.getElem?_cons_succ]; (repeat (first | ((first | (with_reducible refine quietL_plain rfl (fun K hK => ?_)) | (with_reducible refine quietL_want (by with_unfolding_all rfl) (fun K hK => ?_))); (apply Exists.intro; refine ⟨fun wx hx => ?_, ?_⟩; (· (have hcx := ifs_ex hx); simp [go_sem, *, ↓IntWalk.iteOmega] <;> (first | rfl | exact ⟨rfl, rfl⟩ | (with_reducible exact calls_B (calls_below (Strictly_any _ _ _ _))))); (simp only [Act.put, List.setIfInBounds_toArray, List.set_cons_zero, List.set_cons_succ]; refine hK _ ?_; clear hK K))) | ((with_reducible refine quietL_skip (by with_unfolding_all rfl) ?_); simp only [Act.put, List.setIfInBounds_toArray, List.set_cons_zero, List.set_cons_succ]))); refine quietL_nil ?_)
                        (refine anyB_end (by kernel_rfl) ?_; intro w32 hb32; have hs32 := hb32.size; (try simp at hs32); simp only [Calm])
                        have HC32 := Lib.hid (HC31.out.kept hb32)
                        have HR32 := Lib.hid ((HR31.out.below hb32).more hb32.size)
                        have hle32 := HC32.out.le
                        clear z1 y1 cA lA cO lO hb32 HC31 HR31 hs31 hbm31
                        cases hst : strictB qk qj o.c with
                        | false =>
                          have HFin : Hid (setU a o = set) := Lib.hid (HSt.out (by
                            cases hg : goB (ckA a o.c) (usL a) a.lim (chgN (onL a) set) set with
                            | false => rfl
                            | true =>
                              rw [HCh.out, HUs.out] at hg
                              have := (HG2.out.1 hg).2.2.2
                              have e2 : strictB qk qj o.c = true := this
                              rw [hst] at e2
                              cases e2))
                          go_wp2_with fail
                          go_meet
                          case rel => exact ⟨_, c7, by rw [HFin.out], by rw [HFin.out]; exact HC32⟩
                        | true =>
                          have hgo : goB (ckA a o.c) (usL a) a.lim (chgN (onL a) set) set = true := by
                            rw [HCh.out, HUs.out]
                            exact HG2.out.2 ⟨HNs.out, HNe.out, hl2, hst⟩
                          obtain ⟨g, _, hX2, hc2⟩ := HSp.out hgo
                          have HX2 := Lib.hid hX2
                          have HC2 := Lib.hid hc2
                          have hwle := wout_len_le set [(j : Int)]
                          clear hgo hX2 hc2 HSp HG2 HSt
                          as_aux_lemma =>
                            have hla : Below w32.heap.size w32 (w32.alloc (.cells #[.int .i64 (j : Int)] 3)) := (Below.refl _ _).alloc (Nat.le_refl _) _
                            have HRa := Lib.hid ((HR32.out.below hla).more hla.size)
                            have HRl : Hid (Reads (w32.alloc (.cells #[.int .i64 (j : Int)] 3)) (w32.alloc (.cells #[.int .i64 (j : Int)] 3)).heap.size 1 (some ⟨w32.heap.size, 0, none⟩) 1 ([(j : Int)].map (.int .i64))) := Lib.hid (by simpa using Reads.new (size := 1) w32 #[.int .i64 (j : Int)] 3 1 rfl)
                            have HCa := Lib.hid (HC32.out.kept hla)
                            have hsa := hla.size
                            clear hla
                            go_wp2_with fail
                            refine (HWo.out _ A7 set.length c7 (some ⟨w32.heap.size, 0, none⟩) 1 1 set [(j : Int)] HRa.out HRl.out (by omega) (by omega)).mono ?_
                            rintro e w33 ⟨v33, rfl, hr33, hb33⟩
                            obtain ⟨A33, c33, rfl, _, _, _⟩ := own_form hr33
                            have hla2 : Below w33.heap.size w33 (w33.alloc (.cells #[.int .i64 (k : Int)] 3)) := (Below.refl _ _).alloc (Nat.le_refl _) _
                            have HR34 := Lib.hid (own_kept (row_base (base' := w.heap.size + 1 + 1) hr33 (by omega)) hla2)
                            have HC34 := Lib.hid ((HCa.out.kept hb33).kept hla2)
                            have hle34 := HC34.out.le
                            clear hr33 hb33 hla2 HRa HRl HCa HC32 HR32 hsa
                            go_wp2_with (at_builtin; refine wpList_appB 29 3 1 8 elemInt rfl (.tmp 125) (.tmp 127) rfl (w.heap.size + 1 + 1) (.slice A33 (wout set [(j : Int)]).length c33) (wout set [(j : Int)]).length _ rfl HR34.out w33.heap.size 1 #[.int .i64 (k : Int)] rfl (Blk.new w33 _ _) rfl ?h1 (by decide) ?h3 ?h4 ?h5 ?_)
                            case h1 => first | rfl | (intro u hu; simp at hu; subst hu; rfl)
                            case h3 => unfold maxLen; omega
                            case h4 => omega
                            case h5 => exact hle34
                            intro g8 cap8 w8 hO8 hg8 _
                            obtain ⟨h78, hk78⟩ := app_keeps HR34.out hle34 hg8
                            have HN := Lib.hid (HC34.out.put h78 hk78 (set' := exch set j k) (v' := .slice (some ⟨g8, 0, none⟩) ((wout set [(j : Int)]).length + 1) cap8) (by unfold exch; rw [List.length_append, List.map_append]; exact hO8))
                            have eL : (exch set (j : Int) (k : Int)).length = (wout set [(j : Int)]).length + 1 := by unfold exch; rw [List.length_append]; rfl
                            obtain ⟨_, _, e8, _, _, hrd8⟩ := own_form HN.out.row
                            rw [eL] at e8
                            cases e8
                            have HRn := Lib.hid (readI_eq (c := cap8) hrd8)
                            rw [eL] at HRn
                            rw [← eL] at HN
                            clear h78 hk78 hO8 hg8 hrd8 HR34 HC34
                            go_wp2_with fail
                            go_roundw
                            case rel => exact ⟨some ⟨g8, 0, none⟩, cap8, exch set j k, g, by rw [eL], HN, HX2⟩
                            case measure =>
                              rw [HRn.out, HRe.out, HC2.out, HCh.out]
                              omega
                  · have HFin : Hid (setU a o = set) := Lib.hid (HSt.out (by
                      cases hg : goB (ckA a o.c) (usL a) a.lim (chgN (onL a) set) set with
                      | false => rfl
                      | true =>
                        rw [HCh.out] at hg
                        exact absurd (HG.out.1 hg).2.2.1 hl2))
                    (refine anyB_quiet_at (by kernel_rfl) calm_panic xs_ 0 [15, 18, 19] _ _ (by kernel_rfl) (by decide +kernel) ?_; simp only [pickB, List.filterMap_cons, List.filterMap_nil, List.getElem?_toArray, List.getElem?_cons_zero, List.getElem?_cons_succ]; (repeat (first | ((first | (with_reducible refine quietL_plain rfl (fun K hK => ?_)) | (with_reducible refine quietL_want (by with_unfolding_all rfl) (fun K hK => ?_))); (apply Exists.intro; refine ⟨fun wx hx => ?_, ?_⟩; (· (have hcx := ifs_ex hx); simp [go_sem, *, ↓IntWalk.iteOmega] <;> (first | rfl | exact ⟨rfl, rfl⟩ | fail)); (simp only [Act.put, List.setIfInBounds_toArray, List.set_cons_zero, List.set_cons_succ]; refine hK _ ?_; clear hK K))) | ((with_reducible refine quietL_skip (by with_unfolding_all rfl) ?_); simp only [Act.put, List.setIfInBounds_toArray, List.set_cons_zero, List.set_cons_succ]))); refine quietL_nil ?_)
                    (refine anyB_end (by kernel_rfl) ?_; intro w15 hb15; have hs15 := hb15.size; (try simp at hs15); simp only [Calm])
                    have HC' := Lib.hid ((HC13.out.kept hb14).kept hb15)
                    clear HC13 h113 hb11 hb12 hb13 hb14 hb15
                    go_wp2_with fail
                    go_meet
                    case rel => exact ⟨A7, c7, by rw [HFin.out], by rw [HFin.out]; exact HC'⟩
                · have hlt' : ¬ (set.length : Int) < (us.length : Int) := by omega
                  have HFin : Hid (setU a o = set) := Lib.hid (HSt.out (by
                    cases hg : goB (ckA a o.c) (usL a) a.lim (chgN (onL a) set) set with
                    | false => rfl
                    | true => exact absurd (by rw [← HUs.out]; exact HWp.out.1 (HG.out.1 hg).2.1) hlt))
                  (refine anyB_quiet_at (by kernel_rfl) calm_panic xs_ 0 [8, 9, 10, 11, 12, 13, 14, 15, 16, 17, 18, 19] _ _ (by kernel_rfl) (by decide +kernel) ?_; simp only [pickB, List.filterMap_cons, List.filterMap_nil, List.getElem?_toArray, List.getElem?_cons_zero, List.getElem?_cons_succ]; (repeat (first | ((first | (with_reducible refine quietL_plain rfl (fun K hK => ?_)) | (with_reducible refine quietL_want (by with_unfolding_all rfl) (fun K hK => ?_))); (apply Exists.intro; refine ⟨fun wx hx => ?_, ?_⟩; (· (have hcx := ifs_ex hx); simp [go_sem, *, ↓IntWalk.iteOmega] <;> (first | rfl | exact ⟨rfl, rfl⟩ | fail)); (simp only [Act.put, List.setIfInBounds_toArray, List.set_cons_zero, List.set_cons_succ]; refine hK _ ?_; clear hK K))) | ((with_reducible refine quietL_skip (by with_unfolding_all rfl) ?_); simp only [Act.put, List.setIfInBounds_toArray, List.set_cons_zero, List.set_cons_succ]))); refine quietL_nil ?_)
                  (refine anyB_end (by kernel_rfl) ?_; intro w13 hb13; have hs13 := hb13.size; (try simp at hs13); simp only [Calm])
                  have HC' := Lib.hid (((HC.out.kept hb11).kept hb12).kept hb13)
                  clear hb11 hb12 hb13
                  go_wp2_with fail
                  go_meet
                  case rel => exact ⟨A7, c7, by rw [HFin.out], by rw [HFin.out]; exact HC'⟩
        rename World => w30
        obtain ⟨A30, c30, rfl, HC30⟩ := hcut
        clear HC20 hset2
        have hsp := setU_spec HF.out.fit hn0.1 HEr.out
        have hsU : (setU a o).length ≤ 16 := by rw [hsp.2.1]; omega
        obtain ⟨A30', c30', e30, _, _, hrd30⟩ := own_form HC30.out.row
        cases e30
        have HSo := Lib.hid (sorted_any w30.heap.size A30 (setU a o).length c30 (setU a o) w30 hrd30 (Nat.le_refl _) (by omega) hsp.1.nd (fun i hi => us_in HF.out.fit i (hsp.1.sub i hi)))
        have hCh : sortI (setU a o) = choiceA a o := rfl
        rw [hCh] at HSo
        unfold IdRes at HSo
        have hle30 := HC30.out.le
        clear hsp hrd30 hCh
        go_wp2_with fail
        refine HSo.out.mono ?_
        rintro e w31 ⟨v31, rfl, hr, hb⟩
        have HR := Lib.hid hr
        have HB := Lib.hid (HC30.out.low.trans (hb.mono HC30.out.low.size))
        clear hr hb HSo
        go_wp2_with fail
        go_ret2
        exact ⟨v31, rfl, row_base HR.out (by omega), fun h => absurd rfl h, HB.out⟩
end Go.Proofs.YtfpjcnkfoehhmaaGreatDoor
