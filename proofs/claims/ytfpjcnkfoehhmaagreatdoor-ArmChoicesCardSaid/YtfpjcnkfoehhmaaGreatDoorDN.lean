/- The law ArmChoices. -/
import Derived.Test.YtfpjcnkfoehhmaaGreatDoorUA2
import Derived.Test.YtfpjcnkfoehhmaaGreatDoorRS
import Derived.Test.YtfpjcnkfoehhmaaGreatDoorRC
import Derived.Test.YtfpjcnkfoehhmaaGreatDoorRB
import Derived.Test.YtfpjcnkfoehhmaaGreatDoorDJ
import Derived.Test.YtfpjcnkfoehhmaaGreatDoorQl
import Derived.Test.YtfpjcnkfoehhmaaGreatDoorDA
namespace Go.Proofs.YtfpjcnkfoehhmaaGreatDoor
open Go Go.RowKit Go.Sort Go.Shelf
set_option linter.unusedSimpArgs false
set_option linter.unusedVariables false
attribute [local go_sem] cell_if frozen_if grow_cell
theorem listed_any (B1 B2 : Nat) (A1 A2 : Option Addr) (n c1 c2 : Nat) (l : List Int) (e : Int) (w : World) (h1 : Reads w B1 1 A1 n (l.map (.int .i64))) (h2 : Reads w B2 1 A2 n (l.map (.int .i64))) (hB1 : B1 ≤ w.heap.size) (hB2 : B2 ≤ w.heap.size) (hn : n ≤ 400) (he : e ≠ 0 → n = 0) :
    Calls Tryz.prog 26 #[.slice A1 n c1, .int .i64 e, .int .i64 e, .slice A2 n c2] w fun en w' => en = .returned (.bool true) ∧ Below w.heap.size w w' := by
  by_cases h : e = 0
  · subst h
    exact listed_ok B1 B2 A1 A2 n c1 c2 l w h1 h2 hB1 hB2 hn
  · have h0 := he h
    subst h0
    exact listed_len A1 A2 0 c2 c1 e w h
theorem cho_eq2 {a : Ar} {o : Od} (hE : armE a = 0) (ho : orderE o = 0) : choE a o = refE a o := by
  unfold choE
  rw [firstE_cons, hE, or0_yes, firstE_cons, ho, or0_yes, firstE_nil, or0_yes]
theorem rstep_uni {w w' : World} {a : Ar} {o : Od} {er : Int} {e : Ending} (h : RStRes w a o er e w') : ∃ A c, e = .returned (.tuple #[.agg #[.slice A (resAr er (stepA a o)).m.length c, .int .i64 (resAr er (stepA a o)).lo, .int .i64 (resAr er (stepA a o)).hi, .int .i64 (resAr er (stepA a o)).cur, .int .i64 (resAr er (stepA a o)).lim], .int .i64 er]) ∧ MsAt w' w'.heap.size A (resAr er (stepA a o)).m.length (resAr er (stepA a o)).m ∧ Below w.heap.size w w' := by
  obtain ⟨hb, ⟨rfl, g, cap, rfl, hg, _⟩ | ⟨h0, rfl⟩⟩ := h
  · have e : resAr 0 (stepA a o) = stepA a o := if_pos rfl
    have hl : (stepA a o).m.length = a.m.length := stepMs_len _ _ _ _
    rw [e, hl]
    exact ⟨_, _, rfl, hg, hb⟩
  · have e : resAr er (stepA a o) = nilA := if_neg h0
    rw [e]
    exact ⟨none, 0, rfl, ms_nil _ _, hb⟩
theorem stepA_len (a : Ar) (o : Od) : (stepA a o).m.length = a.m.length := stepMs_len _ _ _ _
theorem resAr_len {b : Ar} {er : Int} {n : Nat} (hn : n ≤ 17) (h : b.m.length = n) : (resAr er b).m.length ≤ 1000 := by
  unfold resAr
  split
  · omega
  · exact Nat.zero_le _
theorem choL_len {a : Ar} {o : Od} : (choL a o).length ≤ 16 := by
  unfold choL
  split
  · rename_i h0
    have hr := h0
    unfold choE at hr
    obtain ⟨h1, h2⟩ := or0_zero hr
    rw [firstE_cons, firstE_cons] at h1
    have ho := (or0_zero (or0_zero h1).2).1
    have := choice_len (fit_of (or0_zero h1).1) (order_zero ho).1.1 h2
    have := (order_zero ho).1.2
    omega
  · simp
set_option maxRecDepth 1000000 in
set_option maxHeartbeats 16000000 in
theorem choices_any (A A2 : Option Addr) (n c n2 c2 : Nat) (a : Ar) (o : Od) (set : List Int) (w : World) (hM : MsAt w w.heap.size A n a.m) (hn : n ≤ maxLen) (hnm : ∀ x ∈ a.m, x.n.size ≤ maxLen) (hoq : (-9223372036854775808 ≤ o.n ∧ o.n ≤ 9223372036854775807) ∧ (-9223372036854775808 ≤ o.c ∧ o.c ≤ 9223372036854775807)) (hR : Reads w w.heap.size 1 A2 n2 (set.map (.int .i64))) (hn2 : n2 ≤ maxLen) (hT : TabT w) :
    Calls Tryz.prog 6 #[.agg #[.slice A n c, .int .i64 a.lo, .int .i64 a.hi, .int .i64 a.cur, .int .i64 a.lim], .agg #[.int .i64 o.n, .int .i64 o.c], .slice A2 n2 c2] w fun e w' => e = .returned (.bool true) ∧ Below w.heap.size w w' := by
  have hl := (md_at hM).1
  have hmx : maxLen = 9223372036854775807 := rfl
  rw [hmx] at hn hn2
  have HT := Lib.hid hT
  have HAw := Lib.hid (fun W (hW : Below w.heap.size w W) => awake_ok w W hT hW)
  have HSh := Lib.hid (fun W (hW : Below w.heap.size w W) => Short_any w.heap.size A n c a W (hM.below hW) hW.size (by unfold maxLen; omega))
  clear hmx hT hoq
  by_cases h40 : n2 ≤ 17
  case neg =>
    have hd : (17 : Int) < (n2 : Int) := by omega
    have hd2 : decide ((17 : Int) < (n2 : Int)) = true := decide_eq_true hd
    clear hM hnm hl hR
    cases hs : shortA a with
    | false =>
      rw [hs] at HSh
      clear hs
      go_enter Tryz.func6, Tryz.ntmps6
      go_wp2_with fail
      refine (HAw.out _ bl_).mono ?_
      rintro e w1 ⟨rfl, hb⟩
      have HA : Hid (Blk w1 (w.heap.size) 26 #[.slice A n c, .int .i64 a.lo, .int .i64 a.hi, .int .i64 a.cur, .int .i64 a.lim]) := Lib.hid bk_
      have HO : Hid (Blk w1 (w.heap.size + 1) 68 #[.int .i64 o.n, .int .i64 o.c]) := Lib.hid bk_
      have HL : Hid (Below w.heap.size w w1) := Lib.hid bl_
      have hs1 := HL.out.size
      clear hb
      have cHA := HA.out.cell
      have lHA := HA.out.lt
      have cHO := HO.out.cell
      have lHO := HO.out.lt
      go_wp2_with fail
      refine (HSh.out _ HL.out).mono ?_
      rintro e w2 ⟨rfl, hb⟩
      clear cHA lHA cHO lHO
      have hs2 := hb.size
      have HL' := Lib.hid (HL.out.trans (hb.mono HL.out.size)); clear HL; have HL := HL'; clear HL'
      have HA' := Lib.hid (HA.out.kept hb); clear HA; have HA := HA'; clear HA'
      have HO' := Lib.hid (HO.out.kept hb); clear HO; have HO := HO'; clear HO'
      clear hb
      have cHA := HA.out.cell
      have lHA := HA.out.lt
      have cHO := HO.out.cell
      have lHO := HO.out.lt
      go_wp2_with fail
      refine (HAw.out _ HL.out).mono ?_
      rintro e w3 ⟨rfl, hb⟩
      clear cHA lHA cHO lHO
      have hs3 := hb.size
      have HL' := Lib.hid (HL.out.trans (hb.mono HL.out.size)); clear HL; have HL := HL'; clear HL'
      have HA' := Lib.hid (HA.out.kept hb); clear HA; have HA := HA'; clear HA'
      have HO' := Lib.hid (HO.out.kept hb); clear HO; have HO := HO'; clear HO'
      clear hb
      have cHA := HA.out.cell
      have lHA := HA.out.lt
      have cHO := HO.out.cell
      have lHO := HO.out.lt
      go_wp2_with fail
      go_ret
      exact ⟨rfl, HL.out⟩
    | true =>
      rw [hs] at HSh
      clear hs
      go_enter Tryz.func6, Tryz.ntmps6
      go_wp2_with fail
      refine (HAw.out _ bl_).mono ?_
      rintro e w1 ⟨rfl, hb⟩
      have HA : Hid (Blk w1 (w.heap.size) 26 #[.slice A n c, .int .i64 a.lo, .int .i64 a.hi, .int .i64 a.cur, .int .i64 a.lim]) := Lib.hid bk_
      have HO : Hid (Blk w1 (w.heap.size + 1) 68 #[.int .i64 o.n, .int .i64 o.c]) := Lib.hid bk_
      have HL : Hid (Below w.heap.size w w1) := Lib.hid bl_
      have hs1 := HL.out.size
      clear hb
      have cHA := HA.out.cell
      have lHA := HA.out.lt
      have cHO := HO.out.cell
      have lHO := HO.out.lt
      go_wp2_with fail
      refine (HSh.out _ HL.out).mono ?_
      rintro e w2 ⟨rfl, hb⟩
      clear cHA lHA cHO lHO
      have hs2 := hb.size
      have HL' := Lib.hid (HL.out.trans (hb.mono HL.out.size)); clear HL; have HL := HL'; clear HL'
      have HA' := Lib.hid (HA.out.kept hb); clear HA; have HA := HA'; clear HA'
      have HO' := Lib.hid (HO.out.kept hb); clear HO; have HO := HO'; clear HO'
      clear hb
      have cHA := HA.out.cell
      have lHA := HA.out.lt
      have cHO := HO.out.cell
      have lHO := HO.out.lt
      go_wp2_with fail
      refine (HAw.out _ HL.out).mono ?_
      rintro e w3 ⟨rfl, hb⟩
      clear cHA lHA cHO lHO
      have hs3 := hb.size
      have HL' := Lib.hid (HL.out.trans (hb.mono HL.out.size)); clear HL; have HL := HL'; clear HL'
      have HA' := Lib.hid (HA.out.kept hb); clear HA; have HA := HA'; clear HA'
      have HO' := Lib.hid (HO.out.kept hb); clear HO; have HO := HO'; clear HO'
      clear hb
      have cHA := HA.out.cell
      have lHA := HA.out.lt
      have cHO := HO.out.cell
      have lHO := HO.out.lt
      go_wp2_with fail
      go_ret
      exact ⟨rfl, HL.out⟩
  case pos =>
  have hd : ¬ (17 : Int) < (n2 : Int) := by omega
  have hd2 : decide ((17 : Int) < (n2 : Int)) = false := decide_eq_false hd
  cases hs : shortA a with
  | false =>
    rw [hs] at HSh
    clear hM hnm hl hs hR
    go_enter Tryz.func6, Tryz.ntmps6
    go_wp2_with fail
    refine (HAw.out _ bl_).mono ?_
    rintro e w1 ⟨rfl, hb⟩
    have HA : Hid (Blk w1 (w.heap.size) 26 #[.slice A n c, .int .i64 a.lo, .int .i64 a.hi, .int .i64 a.cur, .int .i64 a.lim]) := Lib.hid bk_
    have HO : Hid (Blk w1 (w.heap.size + 1) 68 #[.int .i64 o.n, .int .i64 o.c]) := Lib.hid bk_
    have HL : Hid (Below w.heap.size w w1) := Lib.hid bl_
    have hs1 := HL.out.size
    clear hb
    have cHA := HA.out.cell
    have lHA := HA.out.lt
    have cHO := HO.out.cell
    have lHO := HO.out.lt
    go_wp2_with fail
    refine (HSh.out _ HL.out).mono ?_
    rintro e w2 ⟨rfl, hb⟩
    clear cHA lHA cHO lHO
    have hs2 := hb.size
    have HL' := Lib.hid (HL.out.trans (hb.mono HL.out.size)); clear HL; have HL := HL'; clear HL'
    have HA' := Lib.hid (HA.out.kept hb); clear HA; have HA := HA'; clear HA'
    have HO' := Lib.hid (HO.out.kept hb); clear HO; have HO := HO'; clear HO'
    clear hb
    have cHA := HA.out.cell
    have lHA := HA.out.lt
    have cHO := HO.out.cell
    have lHO := HO.out.lt
    go_wp2_with fail
    refine (HAw.out _ HL.out).mono ?_
    rintro e w3 ⟨rfl, hb⟩
    clear cHA lHA cHO lHO
    have hs3 := hb.size
    have HL' := Lib.hid (HL.out.trans (hb.mono HL.out.size)); clear HL; have HL := HL'; clear HL'
    have HA' := Lib.hid (HA.out.kept hb); clear HA; have HA := HA'; clear HA'
    have HO' := Lib.hid (HO.out.kept hb); clear HO; have HO := HO'; clear HO'
    clear hb
    have cHA := HA.out.cell
    have lHA := HA.out.lt
    have cHO := HO.out.cell
    have lHO := HO.out.lt
    go_wp2_with fail
    go_ret
    exact ⟨rfl, HL.out⟩
  | true =>
    rw [hs] at HSh
    have hF := short_fit hs hnm
    have h17 := hF.len
    have hE17 := h17
    rw [hl] at h17
    have HOw := Lib.hid (fun W (hW : Below w.heap.size w W) => own_r w.heap.size A n c a W (hM.below hW) hW.size (by omega))
    have HCh := Lib.hid (fun W A c (hm : MsAt W W.heap.size A n a.m) (hc : n ≤ c) => Choose_any W.heap.size A n c a o W hm (Nat.le_refl _) hF hc)
    have HIn := Lib.hid (fun W (hW : Below w.heap.size w W) => ints_any w.heap.size A2 n2 c2 set W (hR.below hW) hW.size (by omega))
    have HCg := Lib.hid (fun W A c A3 n3 c3 (hm : MsAt W W.heap.size A n a.m) (hc : n ≤ c) (h2 : Reads W W.heap.size 1 A3 n3 (set.map (.int .i64))) hn3 => Changes_any W.heap.size W.heap.size A A3 n c n3 c3 a set W hm (Nat.le_refl _) hF hc h2 (Nat.le_refl _) hn3)
    have HSt := Lib.hid (fun W A c (hm : MsAt W W.heap.size A n a.m) (hc : n ≤ c) => (Step_any W.heap.size A n c a o W hm (Nat.le_refl _) hF hc).mono fun _ _ => step_uni)
    have HBo := Lib.hid (fun W A c (hm : MsAt W W.heap.size A n a.m) (hc : n ≤ c) => Bound_any W.heap.size A n c a o W hm (Nat.le_refl _) hF hc)
    have HCk := Lib.hid (fun W (hW : Below w.heap.size w W) => rCheckArm_any w.heap.size A n c a W (hM.below hW) hW.size hF)
    have HCo := Lib.hid (fun W => rCheckOrder_any o W)
    have HMs := Lib.hid hM
    have HSs := Lib.hid hR
    obtain ⟨ce, hce⟩ : ∃ ce, choE a o = ce := ⟨_, rfl⟩
    obtain ⟨cl, hcl⟩ : ∃ cl, choL a o = cl := ⟨_, rfl⟩
    obtain ⟨he, hhe⟩ : ∃ he, chsE a set = he := ⟨_, rfl⟩
    obtain ⟨hv, hhv⟩ : ∃ hv, chsV a set = hv := ⟨_, rfl⟩
    obtain ⟨te, hte⟩ : ∃ te, stpE a o = te := ⟨_, rfl⟩
    obtain ⟨ta, hta⟩ : ∃ ta, resAr (stpE a o) (stepA a o) = ta := ⟨_, rfl⟩
    obtain ⟨bv, hbv⟩ : ∃ bv, bouV a o = bv := ⟨_, rfl⟩
    obtain ⟨ee, hee⟩ : ∃ ee, armE a = ee := ⟨_, rfl⟩
    obtain ⟨oe, hoe⟩ : ∃ oe, orderE o = oe := ⟨_, rfl⟩
    rw [hce, hcl] at HCh
    rw [hhe, hhv] at HCg
    rw [hta, hte] at HSt
    rw [hbv, hce] at HBo
    rw [hee] at HCk
    rw [hoe] at HCo
    have htl : ta.m.length ≤ 1000 := by
      rw [← hta]
      exact resAr_len hE17 (stepA_len a o)
    have hc16 : cl.length ≤ 16 := by rw [← hcl]; exact choL_len
    have hc0 : ce ≠ 0 → cl.length = 0 := fun h => by
      rw [← hcl]
      unfold choL
      rw [if_neg (by rw [hce]; exact h)]
      rfl
    have HCe := Lib.hid hce
    have HCl := Lib.hid hcl
    have HHe := Lib.hid hhe
    have HHv := Lib.hid hhv
    have HTe := Lib.hid hte
    have HTa := Lib.hid hta
    have HBv := Lib.hid hbv
    have HEe := Lib.hid hee
    have HOe := Lib.hid hoe
    have HEl := Lib.hid hl
    have HC0 := Lib.hid hc0
    clear hM hnm hF hs hce hcl hhe hhv hte hta hbv hee hoe hl hE17 hR hc0
    go_enter Tryz.func6, Tryz.ntmps6
    go_wp2_with fail
    refine (HAw.out _ bl_).mono ?_
    rintro e w1 ⟨rfl, hb⟩
    have HA : Hid (Blk w1 (w.heap.size) 26 #[.slice A n c, .int .i64 a.lo, .int .i64 a.hi, .int .i64 a.cur, .int .i64 a.lim]) := Lib.hid bk_
    have HO : Hid (Blk w1 (w.heap.size + 1) 68 #[.int .i64 o.n, .int .i64 o.c]) := Lib.hid bk_
    have HL : Hid (Below w.heap.size w w1) := Lib.hid bl_
    have hs1 := HL.out.size
    clear hb
    have cHA := HA.out.cell
    have lHA := HA.out.lt
    have cHO := HO.out.cell
    have lHO := HO.out.lt
    go_wp2_with fail
    refine (HSh.out _ HL.out).mono ?_
    rintro e w2 ⟨rfl, hb⟩
    clear cHA lHA cHO lHO
    have hs2 := hb.size
    have HL' := Lib.hid (HL.out.trans (hb.mono HL.out.size)); clear HL; have HL := HL'; clear HL'
    have HA' := Lib.hid (HA.out.kept hb); clear HA; have HA := HA'; clear HA'
    have HO' := Lib.hid (HO.out.kept hb); clear HO; have HO := HO'; clear HO'
    clear hb
    have cHA := HA.out.cell
    have lHA := HA.out.lt
    have cHO := HO.out.cell
    have lHO := HO.out.lt
    go_wp2_with fail
    (refine wp_region_calm [] [0, 2] 7 (by kernel_rfl) rfl (by kernel_rfl) (by kernel_rfl) (by kernel_rfl) ?_; simp only [pickB, List.filterMap_cons, List.filterMap_nil, List.getElem?_toArray, List.getElem?_cons_zero, List.getElem?_cons_succ]; (repeat (first | ((first | (with_reducible refine quietL_plain rfl (fun K hK => ?_)) | (with_reducible refine quietL_want (by with_unfolding_all rfl) (fun K hK => ?_))); (apply Exists.intro; refine ⟨fun wx hx => ?_, ?_⟩; (· (have hcx := ifs_ex hx); simp [go_sem, *, ↓IntWalk.iteOmega] <;> (first | rfl | exact ⟨rfl, rfl⟩ | fail)); (simp only [Act.put, List.setIfInBounds_toArray, List.set_cons_zero, List.set_cons_succ]; refine hK _ ?_; clear hK K))) | ((with_reducible refine quietL_skip (by with_unfolding_all rfl) ?_); simp only [Act.put, List.setIfInBounds_toArray, List.set_cons_zero, List.set_cons_succ]))); refine quietL_nil ?_)
    (refine anyB_one (i := 1) (by kernel_rfl) rfl rfl ?_; intro w3 hb3 K hK; have hs3 := hb3.size; (try simp at hs3); go_wp2_with fail)
    refine (HOw.out _ (HL.out.trans (hb3.mono HL.out.size))).mono ?_
    rintro e w4 ⟨Ao, co, rfl, hm, hc, hb4⟩
    have hs4 := hb4.size
    have HMo := Lib.hid hm; have HKo := Lib.hid hc; clear hm hc
    (go_wp2; refine ⟨xs_, ?_⟩)
    (refine anyB_one (i := 3) (by kernel_rfl) rfl rfl ?_; intro w5 hb5 K hK; have hs5 := hb5.size; (try simp at hs5); go_wp2_with fail)
    refine (HCh.out _ _ _ (ms_kept HMo.out hb5) HKo.out).mono ?_
    rintro e w6 ⟨v5, rfl, hr, _, hb6⟩
    have hs6 := hb6.size
    obtain ⟨A5, c5, rfl, _, _, hrd⟩ := own_form hr
    have HRd := Lib.hid hrd
    clear hr hrd
    clear HMo HKo
    (go_wp2; refine ⟨xs_, ?_⟩)
    (refine anyB_quiet_at (by kernel_rfl) calm_panic xs_ 2 [4, 5, 6] _ _ (by kernel_rfl) (by decide +kernel) ?_; simp only [pickB, List.filterMap_cons, List.filterMap_nil, List.getElem?_toArray, List.getElem?_cons_zero, List.getElem?_cons_succ]; (repeat (first | ((first | (with_reducible refine quietL_plain rfl (fun K hK => ?_)) | (with_reducible refine quietL_want (by with_unfolding_all rfl) (fun K hK => ?_))); (apply Exists.intro; refine ⟨fun wx hx => ?_, ?_⟩; (· (have hcx := ifs_ex hx); simp [go_sem, *, ↓IntWalk.iteOmega] <;> (first | rfl | exact ⟨rfl, rfl⟩ | fail)); (simp only [Act.put, List.setIfInBounds_toArray, List.set_cons_zero, List.set_cons_succ]; refine hK _ ?_; clear hK K))) | ((with_reducible refine quietL_skip (by with_unfolding_all rfl) ?_); simp only [Act.put, List.setIfInBounds_toArray, List.set_cons_zero, List.set_cons_succ]))); refine quietL_nil ?_)
    (refine anyB_one (i := 7) (by kernel_rfl) rfl rfl ?_; intro w7 hb7 K hK; have hs7 := hb7.size; (try simp at hs7); go_wp2; refine ⟨xs_, ?_⟩)
    (refine anyB_one (i := 8) (by kernel_rfl) rfl rfl ?_; intro w8 hb8 K hK; have hs8 := hb8.size; (try simp at hs8); go_wp2; refine ⟨xs_, ?_⟩)
    (refine anyB_end (by kernel_rfl) ?_; intro w9 hb9; have hs9 := hb9.size; (try simp at hs9); simp only [Calm])
    have FS := Lib.hid ((((⟨HRd.out⟩ : RdI w6 A5 _ _).kept hb7).kept hb8).kept hb9)
    clear HRd
    have hb := hb3.trans ((hb4.trans ((hb5.trans ((hb6.trans ((hb7.trans ((hb8.trans ((hb9).mono hs8)).mono hs7)).mono hs6)).mono hs5)).mono hs4)).mono hs3)
    clear hb3 hb4 hb5 hb6 hb7 hb8 hb9 hs3 hs4 hs5 hs6 hs7 hs8 hs9
    clear cHA lHA cHO lHO
    have hs9 := hb.size
    have HL' := Lib.hid (HL.out.trans (hb.mono HL.out.size)); clear HL; have HL := HL'; clear HL'
    have HA' := Lib.hid (HA.out.kept hb); clear HA; have HA := HA'; clear HA'
    have HO' := Lib.hid (HO.out.kept hb); clear HO; have HO := HO'; clear HO'
    clear hb
    have cHA := HA.out.cell
    have lHA := HA.out.lt
    have cHO := HO.out.cell
    have lHO := HO.out.lt
    go_wp2_with fail
    refine (HOw.out _ HL.out).mono ?_
    rintro e w10 ⟨A10, c10, rfl, hm, hc, hb⟩
    have HM10 := Lib.hid hm; have HC10 := Lib.hid hc; clear hm hc
    clear cHA lHA cHO lHO
    have hs10 := hb.size
    have HL' := Lib.hid (HL.out.trans (hb.mono HL.out.size)); clear HL; have HL := HL'; clear HL'
    have HA' := Lib.hid (HA.out.kept hb); clear HA; have HA := HA'; clear HA'
    have HO' := Lib.hid (HO.out.kept hb); clear HO; have HO := HO'; clear HO'
    have FS' := Lib.hid (FS.out.kept hb); clear FS; have FS := FS'; clear FS'
    clear hb
    have cHA := HA.out.cell
    have lHA := HA.out.lt
    have cHO := HO.out.cell
    have lHO := HO.out.lt
    go_wp2_with fail
    refine (HIn.out _ HL.out).mono ?_
    rintro e w11 ⟨A11, c11, rfl, hrd, hb⟩
    have HR11 := Lib.hid hrd; clear hrd; have HM102 := Lib.hid (ms_kept HM10.out hb); clear HM10
    clear cHA lHA cHO lHO
    have hs11 := hb.size
    have HL' := Lib.hid (HL.out.trans (hb.mono HL.out.size)); clear HL; have HL := HL'; clear HL'
    have HA' := Lib.hid (HA.out.kept hb); clear HA; have HA := HA'; clear HA'
    have HO' := Lib.hid (HO.out.kept hb); clear HO; have HO := HO'; clear HO'
    have FS' := Lib.hid (FS.out.kept hb); clear FS; have FS := FS'; clear FS'
    clear hb
    have cHA := HA.out.cell
    have lHA := HA.out.lt
    have cHO := HO.out.cell
    have lHO := HO.out.lt
    go_wp2_with fail
    refine (HCg.out _ _ _ _ _ _ HM102.out HC10.out HR11.out (by omega)).mono ?_
    rintro e w12 ⟨rfl, hb⟩
    clear HM102 HC10 HR11
    clear cHA lHA cHO lHO
    have hs12 := hb.size
    have HL' := Lib.hid (HL.out.trans (hb.mono HL.out.size)); clear HL; have HL := HL'; clear HL'
    have HA' := Lib.hid (HA.out.kept hb); clear HA; have HA := HA'; clear HA'
    have HO' := Lib.hid (HO.out.kept hb); clear HO; have HO := HO'; clear HO'
    have FS' := Lib.hid (FS.out.kept hb); clear FS; have FS := FS'; clear FS'
    clear hb
    have cHA := HA.out.cell
    have lHA := HA.out.lt
    have cHO := HO.out.cell
    have lHO := HO.out.lt
    go_wp2_with fail
    go_cut [11, 12] (fun s11 s12 wx => ∃ (b11 : Nat) (Ar : Option Addr) (cr : Nat), s11 = .pointer (some ⟨b11, 0, none⟩) ∧ s12 = .int .i64 te ∧ Blk wx b11 35 #[.slice Ar ta.m.length cr, .int .i64 ta.lo, .int .i64 ta.hi, .int .i64 ta.cur, .int .i64 ta.lim] ∧ MsAt wx wx.heap.size Ar ta.m.length ta.m ∧ ta.m.length ≤ cr ∧ Below w12.heap.size w12 wx)
    case first =>
      as_aux_lemma =>
        clear HCh HCg HBo HCk HCo HIn
        have HP := Lib.hid (Below.refl w12.heap.size w12)
        (refine wp_region_calm [] [0, 2] 8 (by kernel_rfl) rfl (by kernel_rfl) (by kernel_rfl) (by kernel_rfl) ?_; simp only [pickB, List.filterMap_cons, List.filterMap_nil, List.getElem?_toArray, List.getElem?_cons_zero, List.getElem?_cons_succ]; (repeat (first | ((first | (with_reducible refine quietL_plain rfl (fun K hK => ?_)) | (with_reducible refine quietL_want (by with_unfolding_all rfl) (fun K hK => ?_))); (apply Exists.intro; refine ⟨fun wx hx => ?_, ?_⟩; (· (have hcx := ifs_ex hx); simp [go_sem, *, ↓IntWalk.iteOmega] <;> (first | rfl | exact ⟨rfl, rfl⟩ | skip)); (simp only [Act.put, List.setIfInBounds_toArray, List.set_cons_zero, List.set_cons_succ]; refine hK _ ?_; clear hK K))) | ((with_reducible refine quietL_skip (by with_unfolding_all rfl) ?_); simp only [Act.put, List.setIfInBounds_toArray, List.set_cons_zero, List.set_cons_succ]))); refine quietL_nil ?_)
        refine anyB_two (i := 1) (j := 7) (by kernel_rfl) rfl rfl rfl rfl ?_ ?_
        · skip
          intro wc hbc K hK
          have hsc := hbc.size
          (try simp at hsc)
          replace HP := Lib.hid (HP.out.trans (hbc.mono HP.out.size))
          (try replace BB := Lib.hid (BB.out.kept hbc))
          (try replace HMo := Lib.hid (ms_kept HMo.out hbc))
          go_wp2_with fail
          refine (HOw.out _ (HL.out.trans (HP.out.mono HL.out.size))).mono ?_
          rintro e wd ⟨Ao, co, rfl, hm, hc, hbd⟩
          have hsd := hbd.size
          have HMo := Lib.hid hm; have HCo2 := Lib.hid hc; clear hm hc
          replace HP := Lib.hid (HP.out.trans (hbd.mono HP.out.size))
          (try replace BB := Lib.hid (BB.out.kept hbd))
          go_wp2
          refine ⟨xs_, ?_⟩
          refine anyB_two (i := 3) (j := 7) (by kernel_rfl) rfl rfl rfl rfl ?_ ?_
          · skip
            intro we hbe K hK
            have hse := hbe.size
            (try simp at hse)
            replace HP := Lib.hid (HP.out.trans (hbe.mono HP.out.size))
            (try replace BB := Lib.hid (BB.out.kept hbe))
            (try replace HMo := Lib.hid (ms_kept HMo.out hbe))
            go_wp2_with fail
            refine (HSt.out _ _ _ HMo.out HCo2.out).mono ?_
            rintro e wf ⟨Ar, cr, rfl, hm, hc, hbf⟩
            have hsf := hbf.size
            clear HMo HCo2; have HG := Lib.hid hm; have HGc := Lib.hid hc; clear hm hc
            replace HP := Lib.hid (HP.out.trans (hbf.mono HP.out.size))
            (try replace BB := Lib.hid (BB.out.kept hbf))
            go_wp2
            refine ⟨xs_, ?_⟩
            (refine anyB_quiet_at (by kernel_rfl) calm_panic xs_ 3 [4, 5, 6] _ _ (by kernel_rfl) (by decide +kernel) ?_; simp only [pickB, List.filterMap_cons, List.filterMap_nil, List.getElem?_toArray, List.getElem?_cons_zero, List.getElem?_cons_succ]; (repeat (first | ((first | (with_reducible refine quietL_plain rfl (fun K hK => ?_)) | (with_reducible refine quietL_want (by with_unfolding_all rfl) (fun K hK => ?_))); (apply Exists.intro; refine ⟨fun wx hx => ?_, ?_⟩; (· (have hcx := ifs_ex hx); simp [go_sem, *, ↓IntWalk.iteOmega] <;> (first | rfl | exact ⟨rfl, rfl⟩ | fail)); (simp only [Act.put, List.setIfInBounds_toArray, List.set_cons_zero, List.set_cons_succ]; refine hK _ ?_; clear hK K))) | ((with_reducible refine quietL_skip (by with_unfolding_all rfl) ?_); simp only [Act.put, List.setIfInBounds_toArray, List.set_cons_zero, List.set_cons_succ]))); refine quietL_nil ?_)
            refine anyB_one (i := 7) (by kernel_rfl) rfl rfl ?_
            intro wh hbh K hK
            have hsh := hbh.size
            (try simp at hsh)
            replace HP := Lib.hid (HP.out.trans (hbh.mono HP.out.size))
            (try replace HMo := Lib.hid (ms_kept HMo.out hbh))
            (try replace HG := Lib.hid (ms_kept HG.out hbh))
            have hbx : Below wh.heap.size wh (wh.alloc (.cells #[.slice none 0 0, .int .i64 0, .int .i64 0, .int .i64 0, .int .i64 0] 35)) := (Below.refl _ _).alloc (Nat.le_refl _) _
            replace HP := Lib.hid (HP.out.trans (hbx.mono HP.out.size))
            (try replace HMo := Lib.hid (ms_kept HMo.out hbx))
            (try replace HG := Lib.hid (ms_kept HG.out hbx))
            have BB := Lib.hid (Blk.new wh 35 #[.slice none 0 0, .int .i64 0, .int .i64 0, .int .i64 0, .int .i64 0])
            have hwh := HP.out.size
            clear hbx
            go_wp2
            refine ⟨xs_, ?_⟩
            refine anyB_one (i := 8) (by kernel_rfl) rfl rfl ?_
            intro wi hbi K hK
            have hsi := hbi.size
            (try simp at hsi)
            replace HP := Lib.hid (HP.out.trans (hbi.mono HP.out.size))
            replace BB := Lib.hid (BB.out.kept hbi)
            replace HG := Lib.hid (ms_kept HG.out hbi)
            have cB := BB.out.cell
            have fB := BB.out.frozen
            have lB := BB.out.lt
            go_wp2
            refine ⟨xs_, ?_⟩
            have BC := Lib.hid (put5_blk (v0 := .slice Ar ta.m.length cr) (v1 := .int .i64 ta.lo) (v2 := .int .i64 ta.hi) (v3 := .int .i64 ta.cur) (v4 := .int .i64 ta.lim) BB.out)
            have HPc := Lib.hid (put5_low (b := wh.heap.size) (v0 := .slice Ar ta.m.length cr) (v1 := .int .i64 ta.lo) (v2 := .int .i64 ta.hi) (v3 := .int .i64 ta.cur) (v4 := .int .i64 ta.lim) HP.out (by omega))
            have HGc5 := Lib.hid (ms_put5 (b := wh.heap.size) (v0 := .slice Ar ta.m.length cr) (v1 := .int .i64 ta.lo) (v2 := .int .i64 ta.hi) (v3 := .int .i64 ta.cur) (v4 := .int .i64 ta.lim) HG.out BB.out)
            clear cB fB lB HP BB HG
            refine anyB_one (i := 9) (by kernel_rfl) rfl rfl ?_
            intro wj hbj K hK
            have hsj := hbj.size
            (try simp at hsj)
            go_wp2
            refine ⟨xs_, ?_⟩
            refine anyB_end (by kernel_rfl) ?_
            intro wk hbk
            have hsk := hbk.size
            simp only [Calm]
            have BE := Lib.hid ((BC.out.kept hbj).kept hbk)
            have HPe := Lib.hid ((HPc.out.trans (hbj.mono HPc.out.size)).trans (hbk.mono (by have := HPc.out.size; omega)))
            have HGe := Lib.hid (ms_kept (ms_kept HGc5.out hbj) hbk)
            go_wp2_with fail
            go_meet
            case rel => exact ⟨wh.heap.size, Ar, cr, rfl, rfl, BE.out, HGe.out, HGc.out, HPe.out⟩
          · skip
            intro wh hbh K hK
            have hsh := hbh.size
            (try simp at hsh)
            replace HP := Lib.hid (HP.out.trans (hbh.mono HP.out.size))
            (try replace HMo := Lib.hid (ms_kept HMo.out hbh))
            (try replace HG := Lib.hid (ms_kept HG.out hbh))
            have hbx : Below wh.heap.size wh (wh.alloc (.cells #[.slice none 0 0, .int .i64 0, .int .i64 0, .int .i64 0, .int .i64 0] 35)) := (Below.refl _ _).alloc (Nat.le_refl _) _
            replace HP := Lib.hid (HP.out.trans (hbx.mono HP.out.size))
            (try replace HMo := Lib.hid (ms_kept HMo.out hbx))
            (try replace HG := Lib.hid (ms_kept HG.out hbx))
            have BB := Lib.hid (Blk.new wh 35 #[.slice none 0 0, .int .i64 0, .int .i64 0, .int .i64 0, .int .i64 0])
            have hwh := HP.out.size
            clear hbx
            go_wp2
            refine ⟨xs_, ?_⟩
            refine anyB_one (i := 3) (by kernel_rfl) rfl rfl ?_
            intro we hbe K hK
            have hse := hbe.size
            (try simp at hse)
            replace HP := Lib.hid (HP.out.trans (hbe.mono HP.out.size))
            (try replace BB := Lib.hid (BB.out.kept hbe))
            (try replace HMo := Lib.hid (ms_kept HMo.out hbe))
            go_wp2_with fail
            refine (HSt.out _ _ _ HMo.out HCo2.out).mono ?_
            rintro e wf ⟨Ar, cr, rfl, hm, hc, hbf⟩
            have hsf := hbf.size
            clear HMo HCo2; have HG := Lib.hid hm; have HGc := Lib.hid hc; clear hm hc
            replace HP := Lib.hid (HP.out.trans (hbf.mono HP.out.size))
            (try replace BB := Lib.hid (BB.out.kept hbf))
            go_wp2
            refine ⟨xs_, ?_⟩
            (refine anyB_quiet_at (by kernel_rfl) calm_panic xs_ 2 [4, 5, 6] _ _ (by kernel_rfl) (by decide +kernel) ?_; simp only [pickB, List.filterMap_cons, List.filterMap_nil, List.getElem?_toArray, List.getElem?_cons_zero, List.getElem?_cons_succ]; (repeat (first | ((first | (with_reducible refine quietL_plain rfl (fun K hK => ?_)) | (with_reducible refine quietL_want (by with_unfolding_all rfl) (fun K hK => ?_))); (apply Exists.intro; refine ⟨fun wx hx => ?_, ?_⟩; (· (have hcx := ifs_ex hx); simp [go_sem, *, ↓IntWalk.iteOmega] <;> (first | rfl | exact ⟨rfl, rfl⟩ | fail)); (simp only [Act.put, List.setIfInBounds_toArray, List.set_cons_zero, List.set_cons_succ]; refine hK _ ?_; clear hK K))) | ((with_reducible refine quietL_skip (by with_unfolding_all rfl) ?_); simp only [Act.put, List.setIfInBounds_toArray, List.set_cons_zero, List.set_cons_succ]))); refine quietL_nil ?_)
            refine anyB_one (i := 8) (by kernel_rfl) rfl rfl ?_
            intro wi hbi K hK
            have hsi := hbi.size
            (try simp at hsi)
            replace HP := Lib.hid (HP.out.trans (hbi.mono HP.out.size))
            replace BB := Lib.hid (BB.out.kept hbi)
            replace HG := Lib.hid (ms_kept HG.out hbi)
            have cB := BB.out.cell
            have fB := BB.out.frozen
            have lB := BB.out.lt
            go_wp2
            refine ⟨xs_, ?_⟩
            have BC := Lib.hid (put5_blk (v0 := .slice Ar ta.m.length cr) (v1 := .int .i64 ta.lo) (v2 := .int .i64 ta.hi) (v3 := .int .i64 ta.cur) (v4 := .int .i64 ta.lim) BB.out)
            have HPc := Lib.hid (put5_low (b := wh.heap.size) (v0 := .slice Ar ta.m.length cr) (v1 := .int .i64 ta.lo) (v2 := .int .i64 ta.hi) (v3 := .int .i64 ta.cur) (v4 := .int .i64 ta.lim) HP.out (by omega))
            have HGc5 := Lib.hid (ms_put5 (b := wh.heap.size) (v0 := .slice Ar ta.m.length cr) (v1 := .int .i64 ta.lo) (v2 := .int .i64 ta.hi) (v3 := .int .i64 ta.cur) (v4 := .int .i64 ta.lim) HG.out BB.out)
            clear cB fB lB HP BB HG
            refine anyB_one (i := 9) (by kernel_rfl) rfl rfl ?_
            intro wj hbj K hK
            have hsj := hbj.size
            (try simp at hsj)
            go_wp2
            refine ⟨xs_, ?_⟩
            refine anyB_end (by kernel_rfl) ?_
            intro wk hbk
            have hsk := hbk.size
            simp only [Calm]
            have BE := Lib.hid ((BC.out.kept hbj).kept hbk)
            have HPe := Lib.hid ((HPc.out.trans (hbj.mono HPc.out.size)).trans (hbk.mono (by have := HPc.out.size; omega)))
            have HGe := Lib.hid (ms_kept (ms_kept HGc5.out hbj) hbk)
            go_wp2_with fail
            go_meet
            case rel => exact ⟨wh.heap.size, Ar, cr, rfl, rfl, BE.out, HGe.out, HGc.out, HPe.out⟩
        · skip
          intro wh hbh K hK
          have hsh := hbh.size
          (try simp at hsh)
          replace HP := Lib.hid (HP.out.trans (hbh.mono HP.out.size))
          (try replace HMo := Lib.hid (ms_kept HMo.out hbh))
          (try replace HG := Lib.hid (ms_kept HG.out hbh))
          have hbx : Below wh.heap.size wh (wh.alloc (.cells #[.slice none 0 0, .int .i64 0, .int .i64 0, .int .i64 0, .int .i64 0] 35)) := (Below.refl _ _).alloc (Nat.le_refl _) _
          replace HP := Lib.hid (HP.out.trans (hbx.mono HP.out.size))
          (try replace HMo := Lib.hid (ms_kept HMo.out hbx))
          (try replace HG := Lib.hid (ms_kept HG.out hbx))
          have BB := Lib.hid (Blk.new wh 35 #[.slice none 0 0, .int .i64 0, .int .i64 0, .int .i64 0, .int .i64 0])
          have hwh := HP.out.size
          clear hbx
          go_wp2
          refine ⟨xs_, ?_⟩
          refine anyB_one (i := 1) (by kernel_rfl) rfl rfl ?_
          intro wc hbc K hK
          have hsc := hbc.size
          (try simp at hsc)
          replace HP := Lib.hid (HP.out.trans (hbc.mono HP.out.size))
          (try replace BB := Lib.hid (BB.out.kept hbc))
          (try replace HMo := Lib.hid (ms_kept HMo.out hbc))
          go_wp2_with fail
          refine (HOw.out _ (HL.out.trans (HP.out.mono HL.out.size))).mono ?_
          rintro e wd ⟨Ao, co, rfl, hm, hc, hbd⟩
          have hsd := hbd.size
          have HMo := Lib.hid hm; have HCo2 := Lib.hid hc; clear hm hc
          replace HP := Lib.hid (HP.out.trans (hbd.mono HP.out.size))
          (try replace BB := Lib.hid (BB.out.kept hbd))
          go_wp2
          refine ⟨xs_, ?_⟩
          refine anyB_one (i := 3) (by kernel_rfl) rfl rfl ?_
          intro we hbe K hK
          have hse := hbe.size
          (try simp at hse)
          replace HP := Lib.hid (HP.out.trans (hbe.mono HP.out.size))
          (try replace BB := Lib.hid (BB.out.kept hbe))
          (try replace HMo := Lib.hid (ms_kept HMo.out hbe))
          go_wp2_with fail
          refine (HSt.out _ _ _ HMo.out HCo2.out).mono ?_
          rintro e wf ⟨Ar, cr, rfl, hm, hc, hbf⟩
          have hsf := hbf.size
          clear HMo HCo2; have HG := Lib.hid hm; have HGc := Lib.hid hc; clear hm hc
          replace HP := Lib.hid (HP.out.trans (hbf.mono HP.out.size))
          (try replace BB := Lib.hid (BB.out.kept hbf))
          go_wp2
          refine ⟨xs_, ?_⟩
          (refine anyB_quiet_at (by kernel_rfl) calm_panic xs_ 2 [4, 5, 6] _ _ (by kernel_rfl) (by decide +kernel) ?_; simp only [pickB, List.filterMap_cons, List.filterMap_nil, List.getElem?_toArray, List.getElem?_cons_zero, List.getElem?_cons_succ]; (repeat (first | ((first | (with_reducible refine quietL_plain rfl (fun K hK => ?_)) | (with_reducible refine quietL_want (by with_unfolding_all rfl) (fun K hK => ?_))); (apply Exists.intro; refine ⟨fun wx hx => ?_, ?_⟩; (· (have hcx := ifs_ex hx); simp [go_sem, *, ↓IntWalk.iteOmega] <;> (first | rfl | exact ⟨rfl, rfl⟩ | fail)); (simp only [Act.put, List.setIfInBounds_toArray, List.set_cons_zero, List.set_cons_succ]; refine hK _ ?_; clear hK K))) | ((with_reducible refine quietL_skip (by with_unfolding_all rfl) ?_); simp only [Act.put, List.setIfInBounds_toArray, List.set_cons_zero, List.set_cons_succ]))); refine quietL_nil ?_)
          refine anyB_one (i := 8) (by kernel_rfl) rfl rfl ?_
          intro wi hbi K hK
          have hsi := hbi.size
          (try simp at hsi)
          replace HP := Lib.hid (HP.out.trans (hbi.mono HP.out.size))
          replace BB := Lib.hid (BB.out.kept hbi)
          replace HG := Lib.hid (ms_kept HG.out hbi)
          have cB := BB.out.cell
          have fB := BB.out.frozen
          have lB := BB.out.lt
          go_wp2
          refine ⟨xs_, ?_⟩
          have BC := Lib.hid (put5_blk (v0 := .slice Ar ta.m.length cr) (v1 := .int .i64 ta.lo) (v2 := .int .i64 ta.hi) (v3 := .int .i64 ta.cur) (v4 := .int .i64 ta.lim) BB.out)
          have HPc := Lib.hid (put5_low (b := wh.heap.size) (v0 := .slice Ar ta.m.length cr) (v1 := .int .i64 ta.lo) (v2 := .int .i64 ta.hi) (v3 := .int .i64 ta.cur) (v4 := .int .i64 ta.lim) HP.out (by omega))
          have HGc5 := Lib.hid (ms_put5 (b := wh.heap.size) (v0 := .slice Ar ta.m.length cr) (v1 := .int .i64 ta.lo) (v2 := .int .i64 ta.hi) (v3 := .int .i64 ta.cur) (v4 := .int .i64 ta.lim) HG.out BB.out)
          clear cB fB lB HP BB HG
          refine anyB_one (i := 9) (by kernel_rfl) rfl rfl ?_
          intro wj hbj K hK
          have hsj := hbj.size
          (try simp at hsj)
          go_wp2
          refine ⟨xs_, ?_⟩
          refine anyB_end (by kernel_rfl) ?_
          intro wk hbk
          have hsk := hbk.size
          simp only [Calm]
          have BE := Lib.hid ((BC.out.kept hbj).kept hbk)
          have HPe := Lib.hid ((HPc.out.trans (hbj.mono HPc.out.size)).trans (hbk.mono (by have := HPc.out.size; omega)))
          have HGe := Lib.hid (ms_kept (ms_kept HGc5.out hbj) hbk)
          go_wp2_with fail
          go_meet
          case rel => exact ⟨wh.heap.size, Ar, cr, rfl, rfl, BE.out, HGe.out, HGc.out, HPe.out⟩
    rename World => w13
    obtain ⟨b11, AY, cY, rfl, rfl, h9, hy, _, hb⟩ := hcut
    have HR := Lib.hid h9
    have HY := Lib.hid hy
    clear h9 hy HSt
    clear cHA lHA cHO lHO
    have hs13 := hb.size
    have HL' := Lib.hid (HL.out.trans (hb.mono HL.out.size)); clear HL; have HL := HL'; clear HL'
    have HA' := Lib.hid (HA.out.kept hb); clear HA; have HA := HA'; clear HA'
    have HO' := Lib.hid (HO.out.kept hb); clear HO; have HO := HO'; clear HO'
    have FS' := Lib.hid (FS.out.kept hb); clear FS; have FS := FS'; clear FS'
    clear hb
    have cHA := HA.out.cell
    have lHA := HA.out.lt
    have cHO := HO.out.cell
    have lHO := HO.out.lt
    have cHR := HR.out.cell
    have lHR := HR.out.lt
    go_wp2_with fail
    (refine wp_region_calm [] [0, 2] 7 (by kernel_rfl) rfl (by kernel_rfl) (by kernel_rfl) (by kernel_rfl) ?_; simp only [pickB, List.filterMap_cons, List.filterMap_nil, List.getElem?_toArray, List.getElem?_cons_zero, List.getElem?_cons_succ]; (repeat (first | ((first | (with_reducible refine quietL_plain rfl (fun K hK => ?_)) | (with_reducible refine quietL_want (by with_unfolding_all rfl) (fun K hK => ?_))); (apply Exists.intro; refine ⟨fun wx hx => ?_, ?_⟩; (· (have hcx := ifs_ex hx); simp [go_sem, *, ↓IntWalk.iteOmega] <;> (first | rfl | exact ⟨rfl, rfl⟩ | fail)); (simp only [Act.put, List.setIfInBounds_toArray, List.set_cons_zero, List.set_cons_succ]; refine hK _ ?_; clear hK K))) | ((with_reducible refine quietL_skip (by with_unfolding_all rfl) ?_); simp only [Act.put, List.setIfInBounds_toArray, List.set_cons_zero, List.set_cons_succ]))); refine quietL_nil ?_)
    (refine anyB_one (i := 1) (by kernel_rfl) rfl rfl ?_; intro w14 hb14 K hK; have hs14 := hb14.size; (try simp at hs14); go_wp2_with fail)
    refine (HOw.out _ (HL.out.trans (hb14.mono HL.out.size))).mono ?_
    rintro e w15 ⟨Ao, co, rfl, hm, hc, hb15⟩
    have hs15 := hb15.size
    have HMo := Lib.hid hm; have HKo := Lib.hid hc; clear hm hc
    (go_wp2; refine ⟨xs_, ?_⟩)
    (refine anyB_one (i := 3) (by kernel_rfl) rfl rfl ?_; intro w16 hb16 K hK; have hs16 := hb16.size; (try simp at hs16); go_wp2_with fail)
    refine (HBo.out _ _ _ (ms_kept HMo.out hb16) HKo.out).mono ?_
    rintro e w17 ⟨rfl, hb17⟩
    have hs17 := hb17.size
    skip
    clear HMo HKo
    (go_wp2; refine ⟨xs_, ?_⟩)
    (refine anyB_quiet_at (by kernel_rfl) calm_panic xs_ 2 [4, 5, 6] _ _ (by kernel_rfl) (by decide +kernel) ?_; simp only [pickB, List.filterMap_cons, List.filterMap_nil, List.getElem?_toArray, List.getElem?_cons_zero, List.getElem?_cons_succ]; (repeat (first | ((first | (with_reducible refine quietL_plain rfl (fun K hK => ?_)) | (with_reducible refine quietL_want (by with_unfolding_all rfl) (fun K hK => ?_))); (apply Exists.intro; refine ⟨fun wx hx => ?_, ?_⟩; (· (have hcx := ifs_ex hx); simp [go_sem, *, ↓IntWalk.iteOmega] <;> (first | rfl | exact ⟨rfl, rfl⟩ | fail)); (simp only [Act.put, List.setIfInBounds_toArray, List.set_cons_zero, List.set_cons_succ]; refine hK _ ?_; clear hK K))) | ((with_reducible refine quietL_skip (by with_unfolding_all rfl) ?_); simp only [Act.put, List.setIfInBounds_toArray, List.set_cons_zero, List.set_cons_succ]))); refine quietL_nil ?_)
    (refine anyB_one (i := 7) (by kernel_rfl) rfl rfl ?_; intro w18 hb18 K hK; have hs18 := hb18.size; (try simp at hs18); go_wp2; refine ⟨xs_, ?_⟩)
    (refine anyB_one (i := 8) (by kernel_rfl) rfl rfl ?_; intro w19 hb19 K hK; have hs19 := hb19.size; (try simp at hs19); go_wp2; refine ⟨xs_, ?_⟩)
    (refine anyB_end (by kernel_rfl) ?_; intro w20 hb20; have hs20 := hb20.size; (try simp at hs20); simp only [Calm])
    have hb := hb14.trans ((hb15.trans ((hb16.trans ((hb17.trans ((hb18.trans ((hb19.trans ((hb20).mono hs19)).mono hs18)).mono hs17)).mono hs16)).mono hs15)).mono hs14)
    clear hb14 hb15 hb16 hb17 hb18 hb19 hb20 hs14 hs15 hs16 hs17 hs18 hs19 hs20
    clear cHA lHA cHO lHO cHR lHR
    have hs20 := hb.size
    have HL' := Lib.hid (HL.out.trans (hb.mono HL.out.size)); clear HL; have HL := HL'; clear HL'
    have HA' := Lib.hid (HA.out.kept hb); clear HA; have HA := HA'; clear HA'
    have HO' := Lib.hid (HO.out.kept hb); clear HO; have HO := HO'; clear HO'
    have FS' := Lib.hid (FS.out.kept hb); clear FS; have FS := FS'; clear FS'
    have HR' := Lib.hid (HR.out.kept hb); clear HR; have HR := HR'; clear HR'
    have HY' := Lib.hid (ms_kept HY.out hb); clear HY; have HY := HY'; clear HY'
    clear hb
    have cHA := HA.out.cell
    have lHA := HA.out.lt
    have cHO := HO.out.cell
    have lHO := HO.out.lt
    have cHR := HR.out.cell
    have lHR := HR.out.lt
    go_wp2_with fail
    refine (HCk.out _ HL.out).mono ?_
    rintro e w21 ⟨rfl, hb⟩
    clear cHA lHA cHO lHO cHR lHR
    have hs21 := hb.size
    have HL' := Lib.hid (HL.out.trans (hb.mono HL.out.size)); clear HL; have HL := HL'; clear HL'
    have HA' := Lib.hid (HA.out.kept hb); clear HA; have HA := HA'; clear HA'
    have HO' := Lib.hid (HO.out.kept hb); clear HO; have HO := HO'; clear HO'
    have FS' := Lib.hid (FS.out.kept hb); clear FS; have FS := FS'; clear FS'
    have HR' := Lib.hid (HR.out.kept hb); clear HR; have HR := HR'; clear HR'
    have HY' := Lib.hid (ms_kept HY.out hb); clear HY; have HY := HY'; clear HY'
    clear hb
    have cHA := HA.out.cell
    have lHA := HA.out.lt
    have cHO := HO.out.cell
    have lHO := HO.out.lt
    have cHR := HR.out.cell
    have lHR := HR.out.lt
    go_wp2_with fail
    refine (HCo.out _).mono ?_
    rintro e w22 ⟨rfl, hb⟩
    clear cHA lHA cHO lHO cHR lHR
    have hs22 := hb.size
    have HL' := Lib.hid (HL.out.trans (hb.mono HL.out.size)); clear HL; have HL := HL'; clear HL'
    have HA' := Lib.hid (HA.out.kept hb); clear HA; have HA := HA'; clear HA'
    have HO' := Lib.hid (HO.out.kept hb); clear HO; have HO := HO'; clear HO'
    have FS' := Lib.hid (FS.out.kept hb); clear FS; have FS := FS'; clear FS'
    have HR' := Lib.hid (HR.out.kept hb); clear HR; have HR := HR'; clear HR'
    have HY' := Lib.hid (ms_kept HY.out hb); clear HY; have HY := HY'; clear HY'
    clear hb
    have cHA := HA.out.cell
    have lHA := HA.out.lt
    have cHO := HO.out.cell
    have lHO := HO.out.lt
    have cHR := HR.out.cell
    have lHR := HR.out.lt
    go_wp2_with fail
    refine (calls_below (rFirst_any (w22.heap.size + 1) _ 2 2 [ee, oe] _ (by simpa using Reads.new (size := 1) w22 (([ee, oe]).map (.int .i64)).toArray 3 2 rfl) (by unfold maxLen; decide))).mono ?_
    rintro e w23 ⟨rfl, hb⟩
    clear cHA lHA cHO lHO cHR lHR
    have hb := ((Below.refl _ _).alloc (Nat.le_refl _) _).trans (hb.mono (by simp))
    have hs23 := hb.size
    have HL' := Lib.hid (HL.out.trans (hb.mono HL.out.size)); clear HL; have HL := HL'; clear HL'
    have HA' := Lib.hid (HA.out.kept hb); clear HA; have HA := HA'; clear HA'
    have HO' := Lib.hid (HO.out.kept hb); clear HO; have HO := HO'; clear HO'
    have FS' := Lib.hid (FS.out.kept hb); clear FS; have FS := FS'; clear FS'
    have HR' := Lib.hid (HR.out.kept hb); clear HR; have HR := HR'; clear HR'
    have HY' := Lib.hid (ms_kept HY.out hb); clear HY; have HY := HY'; clear HY'
    clear hb
    have cHA := HA.out.cell
    have lHA := HA.out.lt
    have cHO := HO.out.cell
    have lHO := HO.out.lt
    have cHR := HR.out.cell
    have lHR := HR.out.lt
    obtain ⟨e1, he1⟩ : ∃ e1, firstE [ee, oe] = e1 := ⟨_, rfl⟩
    rw [he1]
    have HE1 := Lib.hid he1
    clear he1 HCh HCg HBo HCk HCo HIn HOw
    go_upto_if 75 with fail
    refine wp_world ?_
    intro W0 hW
    have HK := Lib.hid (show Below w23.heap.size w23 W0 from by rw [hW]; exact (Below.refl _ _).alloc (Nat.le_refl _) _)
    have HZ := Lib.hid (show Blk W0 w23.heap.size 26 #[.slice none 0 0, .int .i64 0, .int .i64 0, .int .i64 0, .int .i64 0] from by rw [hW]; exact Blk.new _ _ _)
    clear hW cHA lHA cHO lHO cHR lHR
    go_cut [17] (fun s17 wx => s17 = .int .i64 he ∧ Blk wx w23.heap.size 26 #[.slice none 0 0, .int .i64 0, .int .i64 0, .int .i64 0, .int .i64 0] ∧ Below w23.heap.size w23 wx)
    case first =>
      as_aux_lemma =>
        have HAw := HA.out.kept HK.out
        have HOw := HO.out.kept HK.out
        have HLw := Lib.hid (HL.out.trans (HK.out.mono HL.out.size))
        have cHA := HAw.cell
        have lHA := HAw.lt
        have cHO := HOw.cell
        have lHO := HOw.lt
        clear HAw HOw HA HO HL HR HY FS
        by_cases h0 : ee = 0
        case pos =>
          subst h0
          have HCs := Lib.hid (fun W (hW : Below w.heap.size w W) => checkSet_any w.heap.size w.heap.size A A2 n c n2 c2 a set W (HMs.out.below hW) hW.size h17 HEe.out (HSs.out.below hW) hW.size (by omega))
          rw [HHe.out] at HCs
          go_wp2_with fail
          refine (HCs.out _ HLw.out).mono ?_
          rintro e wx ⟨rfl, hb⟩
          have HKx := Lib.hid (HK.out.trans (hb.mono HK.out.size))
          have HZx := Lib.hid (HZ.out.kept hb)
          clear hb cHA lHA cHO lHO
          go_wp2_with fail
          go_meet
          case rel => exact ⟨rfl, HZx.out, HKx.out⟩
        case neg =>
          have hne : (ee == 0) = false := by simpa using h0
          have HX : Hid (ee = he) := Lib.hid (by rw [← HHe.out, ← HEe.out, chsE_bad (by rw [HEe.out]; exact h0)])
          go_wp2_with fail
          go_meet
          case rel => exact ⟨by rw [HX.out], HZ.out, HK.out⟩
    rename World => W1
    obtain ⟨rfl, hz, hb⟩ := hcut
    clear HK HZ
    have HK := Lib.hid hb
    have HZ := Lib.hid hz
    clear hb hz
    go_upto_if 80 with fail
    go_cut [20] (fun s20 wx => ∃ rv : Int, s20 = .int .i64 rv ∧ (he ≠ 0 → hv = 0) ∧ (he = 0 → rv = hv) ∧ Blk wx w23.heap.size 26 #[.slice none 0 0, .int .i64 0, .int .i64 0, .int .i64 0, .int .i64 0] ∧ Below w23.heap.size w23 wx)
    case first =>
      as_aux_lemma =>
        have HAw := HA.out.kept HK.out
        have HOw := HO.out.kept HK.out
        have HLw := Lib.hid (HL.out.trans (HK.out.mono HL.out.size))
        have cHA := HAw.cell
        have lHA := HAw.lt
        have cHO := HOw.cell
        have lHO := HOw.lt
        clear HAw HOw HA HO HL HR HY FS
        by_cases h0 : he = 0
        case pos =>
          have hE : armE a = 0 := by
            by_cases h : armE a = 0
            · exact h
            · have := chsE_bad h set
              rw [HHe.out, h0] at this
              exact absurd this.symm h
          have hcv := chs_chg hE (HHe.out.trans h0)
          rw [HHv.out] at hcv
          subst h0
          have HCs := Lib.hid (fun W (hW : Below w.heap.size w W) => rChanges_any w.heap.size w.heap.size A A2 n c n2 c2 a set W (HMs.out.below hW) hW.size (by omega) (HSs.out.below hW) hW.size (by omega))
          rw [← hcv] at HCs
          clear hE hcv
          go_wp2_with fail
          refine (HCs.out _ HLw.out).mono ?_
          rintro e wx ⟨rfl, hb⟩
          have HKx := Lib.hid (HK.out.trans (hb.mono HK.out.size))
          have HZx := Lib.hid (HZ.out.kept hb)
          clear hb cHA lHA cHO lHO
          go_wp2_with fail
          go_meet
          case rel => exact ⟨hv, rfl, fun h => absurd rfl h, fun _ => rfl, HZx.out, HKx.out⟩
        case neg =>
          have hne : (he == 0) = false := by simpa using h0
          have HX : Hid (hv = 0) := Lib.hid (by rw [← HHv.out]; unfold chsV; rw [if_neg (by rw [HHe.out]; exact h0)])
          go_wp2_with fail
          go_meet
          case rel => exact ⟨0, rfl, fun _ => HX.out, fun h => absurd h h0, HZ.out, HK.out⟩
    rename World => W2
    obtain ⟨rv1, rfl, hr1, hr2, hz, hb⟩ := hcut
    clear HK HZ
    have HK := Lib.hid hb
    have HZ := Lib.hid hz
    clear hb hz
    go_upto_if 85 with fail
    go_cut [16, 18, 19] (fun s16 s18 s19 wx => ∃ (A1 A3 : Option Addr) (c1 c3 : Nat), s16 = .int .i64 ce ∧ s18 = .int .i64 te ∧ s19 = .slice A1 cl.length c1 ∧ Reads wx wx.heap.size 1 A1 cl.length (cl.map (.int .i64)) ∧ Blk wx w23.heap.size 26 #[.slice A3 ta.m.length c3, .int .i64 ta.lo, .int .i64 ta.hi, .int .i64 ta.cur, .int .i64 ta.lim] ∧ MsAt wx wx.heap.size A3 ta.m.length ta.m ∧ Below w23.heap.size w23 wx)
    case first =>
      as_aux_lemma =>
        have HAk := HA
        have HOk := HO
        have HLk := HL
        have HA1 := Lib.hid (HA.out.kept HK.out)
        have HO1 := Lib.hid (HO.out.kept HK.out)
        have HAw := HA.out.kept HK.out
        have HOw := HO.out.kept HK.out
        have HLw := Lib.hid (HL.out.trans (HK.out.mono HL.out.size))
        have cHA := HAw.cell
        have lHA := HAw.lt
        have cHO := HOw.cell
        have lHO := HOw.lt
        clear HAw HOw HA HO HL HR HY FS
        by_cases h0 : e1 = 0
        case pos =>
          subst h0
          have h1 := HE1.out
          rw [firstE_cons, firstE_cons] at h1
          have hE : armE a = 0 := HEe.out.trans (or0_zero h1).1
          have ho : orderE o = 0 := HOe.out.trans (or0_zero (or0_zero h1).2).1
          have hce : refE a o = ce := by rw [← HCe.out, cho_eq2 hE ho]
          have hte : stepE a o = te := by rw [← HTe.out, stp_eq hE ho]
          have hcl : rchL a o = cl := by rw [← HCl.out]; unfold rchL choL; rw [cho_eq2 hE ho]
          have hta : resAr te (stepA a o) = ta := by rw [← HTa.out, HTe.out]
          have HS := Lib.hid (fun W (hW : Below w.heap.size w W) => (rStep_any w.heap.size A n c a o W (HMs.out.below hW) hW.size h17 hE ho).mono fun _ _ => rstep_uni)
          rw [hte, hta] at HS
          have HC := Lib.hid (fun W (hW : Below w.heap.size w W) => rChoose_any w.heap.size A n c a o W (HMs.out.below hW) hW.size h17 hE ho)
          rw [hce, hcl] at HC
          clear h1 hE ho hce hte hcl hta
          go_wp2_with fail
          refine (HS.out _ HLw.out).mono ?_
          rintro e wx ⟨A3, c3, rfl, hm, hb⟩
          have HKx := Lib.hid (HK.out.trans (hb.mono HK.out.size))
          have HZx := HZ.out.kept hb
          have HLx := Lib.hid (HLw.out.trans (hb.mono HLw.out.size))
          have HOx := HO1.out.kept hb
          have HAx := HA1.out.kept hb
          have HM := Lib.hid hm
          clear hb hm cHA lHA cHO lHO HS
          have hsx := HKx.out.size
          have cZ := HZx.cell
          have lZ := HZx.lt
          have fZ := HZx.frozen
          go_upto_region 19 with fail
          refine wp_world ?_
          intro wy hwy
          have HZy := Lib.hid (show Blk wy w23.heap.size 26 #[.slice A3 ta.m.length c3, .int .i64 ta.lo, .int .i64 ta.hi, .int .i64 ta.cur, .int .i64 ta.lim] from by rw [hwy]; exact put5_blk HZx)
          have HMy := Lib.hid (show MsAt wy wy.heap.size A3 ta.m.length ta.m from by rw [hwy]; exact ms_put5 HM.out HZx)
          have HKy := Lib.hid (show Below w23.heap.size w23 wy from by rw [hwy]; exact put5_low HKx.out (Nat.le_refl _))
          have hLy : Below w.heap.size w wy := HLk.out.trans (HKy.out.mono HLk.out.size)
          have HLy := Lib.hid hLy
          have hAy := HAk.out.kept HKy.out
          have hOy := HOk.out.kept HKy.out
          clear hwy cZ lZ fZ HZx HKx HLx HOx HAx HM hLy
          have cHA := hAy.cell
          have lHA := hAy.lt
          have cHO := hOy.cell
          have lHO := hOy.lt
          go_wp2_with fail
          refine (HC.out _ HLy.out).mono ?_
          rintro e wz ⟨v, rfl, hr, _, hb⟩
          obtain ⟨A1, c1, rfl, _, _, hrd⟩ := own_form hr
          have HRd := Lib.hid hrd
          have HKz := Lib.hid (HKy.out.trans (hb.mono HKy.out.size))
          have HZz := Lib.hid (HZy.out.kept hb)
          have HMz := Lib.hid (ms_kept HMy.out hb)
          clear hb hr hrd cHA lHA cHO lHO hAy hOy
          go_wp2_with fail
          go_meet
          case rel => exact ⟨A1, A3, c1, c3, rfl, rfl, rfl, HRd.out, HZz.out, HMz.out, HKz.out⟩
        case neg =>
          have hne : (e1 == 0) = false := by simpa using h0
          have h1 : firstE [armE a, orderE o] = e1 := by rw [HEe.out, HOe.out]; exact HE1.out
          have hce : choE a o = e1 := by unfold choE; rw [h1, or0_no h0]
          have hte : stpE a o = e1 := by unfold stpE; rw [h1, or0_no h0]
          have hcl : cl = [] := by rw [← HCl.out]; unfold choL; rw [if_neg (by rw [hce]; exact h0)]
          have hta : ta = nilA := by rw [← HTa.out, hte]; unfold resAr; exact if_neg h0
          have HX : Hid (e1 = ce ∧ e1 = te ∧ cl = [] ∧ ta = nilA) := Lib.hid ⟨by rw [← HCe.out, hce], by rw [← HTe.out, hte], hcl, hta⟩
          clear h1 hce hte hcl hta
          go_wp2_with fail
          go_meet
          case rel =>
            obtain ⟨q1, q2, q3, q4⟩ := HX.out
            exact ⟨none, none, 0, 0, by rw [q1], by rw [q2], by rw [q3]; rfl, by rw [q3]; exact ⟨rfl, fun h => absurd h (Nat.not_lt_zero _)⟩, by rw [q4]; exact HZ.out, by rw [q4]; exact ms_nil _ _, HK.out⟩
    rename World => W3
    obtain ⟨A1, A3, c1, c3, rfl, rfl, rfl, hq1, hz, hq3, hb⟩ := hcut
    clear HK HZ
    have HK := Lib.hid hb
    have HZ := Lib.hid hz
    have HQ := Lib.hid (⟨hq1⟩ : RdI W3 A1 _ _)
    have HM3 := Lib.hid hq3
    clear hb hz hq1 hq3
    go_upto_if 99 with fail
    go_cut [21] (fun s21 wx => ∃ rv : Int, s21 = .int .i64 rv ∧ (ce ≠ 0 → bv = 0) ∧ (ce = 0 → rv = bv) ∧ Below W3.heap.size W3 wx)
    case first =>
      as_aux_lemma =>
        have HAw := HA.out.kept HK.out
        have HOw := HO.out.kept HK.out
        have HLw := Lib.hid (HL.out.trans (HK.out.mono HL.out.size))
        have cHA := HAw.cell
        have lHA := HAw.lt
        have cHO := HOw.cell
        have lHO := HOw.lt
        clear HAw HOw HA HO HL HR HY FS
        by_cases h0 : ce = 0
        case pos =>
          subst h0
          have h1 := HCe.out
          unfold choE at h1
          obtain ⟨h1, h2⟩ := or0_zero h1
          rw [firstE_cons, firstE_cons] at h1
          have hE : armE a = 0 := (or0_zero h1).1
          have ho : orderE o = 0 := (or0_zero (or0_zero h1).2).1
          have hbv : boundL a o = bv := by rw [← HBv.out]; unfold bouV; rw [if_pos HCe.out]
          have HB := Lib.hid (fun W (hW : Below w.heap.size w W) => rBound_any w.heap.size A n c a o W (HMs.out.below hW) hW.size h17 hE ho)
          rw [hbv] at HB
          clear h1 h2 hE ho hbv
          go_wp2_with fail
          refine (HB.out _ HLw.out).mono ?_
          rintro e wx ⟨rfl, hb⟩
          have HBx := Lib.hid hb
          clear hb cHA lHA cHO lHO
          go_wp2_with fail
          go_meet
          case rel => exact ⟨bv, rfl, fun h => absurd rfl h, fun _ => rfl, HBx.out⟩
        case neg =>
          have hne : (ce == 0) = false := by simpa using h0
          have HX : Hid (bv = 0) := Lib.hid (by rw [← HBv.out]; unfold bouV; rw [if_neg (by rw [HCe.out]; exact h0)])
          go_wp2_with fail
          go_meet
          case rel => exact ⟨0, rfl, fun _ => HX.out, fun h => absurd h h0, Below.refl _ _⟩
    rename World => w24
    obtain ⟨rv2, rfl, hr3, hr4, hb3⟩ := hcut
    have hb := HK.out.trans (hb3.mono HK.out.size)
    have HZ' := Lib.hid (HZ.out.kept hb3); clear HZ; have HZ := HZ'; clear HZ'
    have HQ' := Lib.hid (HQ.out.kept hb3); clear HQ; have HQ := HQ'; clear HQ'
    have HM3' := Lib.hid (ms_kept HM3.out hb3); clear HM3; have HM3 := HM3'; clear HM3'
    have hc0 := HC0.out
    clear hb3 HK
    have hs24 := hb.size
    have HL' := Lib.hid (HL.out.trans (hb.mono HL.out.size)); clear HL; have HL := HL'; clear HL'
    have HA' := Lib.hid (HA.out.kept hb); clear HA; have HA := HA'; clear HA'
    have HO' := Lib.hid (HO.out.kept hb); clear HO; have HO := HO'; clear HO'
    have FS' := Lib.hid (FS.out.kept hb); clear FS; have FS := FS'; clear FS'
    have HR' := Lib.hid (HR.out.kept hb); clear HR; have HR := HR'; clear HR'
    have HY' := Lib.hid (ms_kept HY.out hb); clear HY; have HY := HY'; clear HY'
    clear hb
    have cHA := HA.out.cell
    have lHA := HA.out.lt
    have cHO := HO.out.cell
    have lHO := HO.out.lt
    have cHR := HR.out.cell
    have lHR := HR.out.lt
    have cHZ := HZ.out.cell
    have lHZ := HZ.out.lt
    have HTb := Lib.hid (fun W A c (hm : MsAt W W.heap.size A ta.m.length ta.m) => told_r W.heap.size A ta.m.length c ta W hm (Nat.le_refl _) htl)
    have HSb := Lib.hid (fun W A1 A2 c1 c2 (h1 : MsAt W W.heap.size A1 ta.m.length ta.m) (h2 : MsAt W W.heap.size A2 ta.m.length ta.m) => Same_self W.heap.size W.heap.size A1 A2 ta.m.length c1 c2 ta W h1 h2 (Nat.le_refl _) (Nat.le_refl _) htl)
    have HN1 := Lib.hid (fun W => number_any hv he rv1 W hr1 hr2)
    have HN2 := Lib.hid (fun W => number_any bv ce rv2 W hr3 hr4)
    have HLs := Lib.hid (fun W (hW : Below w24.heap.size w24 W) => listed_any W.heap.size W.heap.size A5 A1 cl.length c5 c1 cl ce W (FS.out.kept hW).out (HQ.out.kept hW).out (Nat.le_refl _) (Nat.le_refl _) (by omega) hc0)
    clear hr1 hr2 hr3 hr4 hc0
    go_wp2_with fail
    (refine wp_region_calm [] [0, 1, 2, 3, 4, 5, 6, 7, 8, 9, 10, 11, 12, 13, 15] 16 (by kernel_rfl) rfl (by kernel_rfl) (by kernel_rfl) (by kernel_rfl) ?_; simp only [pickB, List.filterMap_cons, List.filterMap_nil, List.getElem?_toArray, List.getElem?_cons_zero, List.getElem?_cons_succ]; (repeat (first | ((first | (with_reducible refine quietL_plain rfl (fun K hK => ?_)) | (with_reducible refine quietL_want (by with_unfolding_all rfl) (fun K hK => ?_))); (apply Exists.intro; refine ⟨fun wx hx => ?_, ?_⟩; (· (have hcx := ifs_ex hx); simp [go_sem, *, ↓IntWalk.iteOmega] <;> (first | rfl | exact ⟨rfl, rfl⟩ | (first | (with_reducible exact calls_B (HLs.out _ (Ex.low hx))) | (with_reducible exact calls_B (calls_below (HN1.out _)))))); (simp only [Act.put, List.setIfInBounds_toArray, List.set_cons_zero, List.set_cons_succ]; refine hK _ ?_; clear hK K))) | ((with_reducible refine quietL_skip (by with_unfolding_all rfl) ?_); simp only [Act.put, List.setIfInBounds_toArray, List.set_cons_zero, List.set_cons_succ]))); refine quietL_nil ?_)
    (refine anyB_one_want (i := 14) (by kernel_rfl) rfl (by kernel_rfl) ?_; intro w25 hb25 K hK; have hs25 := hb25.size; (try simp at hs25); go_wp2_with fail)
    refine (HTb.out _ _ _ (ms_kept HY.out hb25)).mono ?_
    rintro e w26 ⟨At1, ct1, rfl, hm, _, hb26⟩
    have hs26 := hb26.size
    have HM4 := Lib.hid hm
    clear hm
    (go_wp2; refine ⟨xs_, ?_⟩)
    (refine anyB_one_want (i := 16) (by kernel_rfl) rfl (by kernel_rfl) ?_; intro w27 hb27 K hK; have hs27 := hb27.size; (try simp at hs27); go_wp2_with fail)
    refine (HSb.out _ _ _ _ _ (ms_kept HM4.out hb27) (ms_kept (ms_kept (ms_kept HM3.out hb25) hb26) hb27)).mono ?_
    rintro e w28 ⟨rfl, hb28⟩
    have hs28 := hb28.size
    (go_wp2; refine ⟨xs_, ?_⟩)
    (refine anyB_quiet_at (by kernel_rfl) calm_panic xs_ 1 [17, 18, 19, 20, 21, 22, 23, 24, 25, 26, 27, 28, 29] _ _ (by kernel_rfl) (by decide +kernel) ?_; simp only [pickB, List.filterMap_cons, List.filterMap_nil, List.getElem?_toArray, List.getElem?_cons_zero, List.getElem?_cons_succ]; (repeat (first | ((first | (with_reducible refine quietL_plain rfl (fun K hK => ?_)) | (with_reducible refine quietL_want (by with_unfolding_all rfl) (fun K hK => ?_))); (apply Exists.intro; refine ⟨fun wx hx => ?_, ?_⟩; (· (have hcx := ifs_ex hx); simp [go_sem, *, ↓IntWalk.iteOmega] <;> (first | rfl | exact ⟨rfl, rfl⟩ | (with_reducible exact calls_B (calls_below (HN2.out _))))); (simp only [Act.put, List.setIfInBounds_toArray, List.set_cons_zero, List.set_cons_succ]; refine hK _ ?_; clear hK K))) | ((with_reducible refine quietL_skip (by with_unfolding_all rfl) ?_); simp only [Act.put, List.setIfInBounds_toArray, List.set_cons_zero, List.set_cons_succ]))); refine quietL_nil ?_)
    (refine anyB_one (i := 30) (by kernel_rfl) rfl rfl ?_; intro w29 hb29 K hK; have hs29 := hb29.size; (try simp at hs29); go_wp2; refine ⟨xs_, ?_⟩)
    (refine anyB_end (by kernel_rfl) ?_; intro w30 hb30; have hs30 := hb30.size; (try simp at hs30); simp only [Calm])
    have hb := hb25.trans ((hb26.trans ((hb27.trans ((hb28.trans ((hb29.trans ((hb30).mono hs29)).mono hs28)).mono hs27)).mono hs26)).mono hs25)
    have HLz := Lib.hid (HL.out.trans (hb.mono HL.out.size))
    clear hb hb25 hb26 hb27 hb28 hb29 hb30 cHA lHA cHO lHO cHR lHR cHZ lHZ
    go_wp2_with fail
    go_ret
    exact ⟨by first | rfl | (simp; done), HLz.out⟩
end Go.Proofs.YtfpjcnkfoehhmaaGreatDoor
