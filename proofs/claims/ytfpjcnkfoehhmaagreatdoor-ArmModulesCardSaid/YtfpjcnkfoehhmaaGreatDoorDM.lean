/- The law ArmModules. -/
import Derived.Test.YtfpjcnkfoehhmaaGreatDoorUA2
import Derived.Test.YtfpjcnkfoehhmaaGreatDoorRB
import Derived.Test.YtfpjcnkfoehhmaaGreatDoorRR
import Derived.Test.YtfpjcnkfoehhmaaGreatDoorDA
namespace Go.Proofs.YtfpjcnkfoehhmaaGreatDoor
open Go Go.RowKit Go.Sort Go.Shelf
set_option linter.unusedSimpArgs false
set_option linter.unusedVariables false
attribute [local go_sem] cell_if frozen_if grow_cell
theorem resA_len {b : Ar} {er : Int} {n : Nat} (hn : n ≤ 17) (h : b.m.length = n) : (resAr er b).m.length ≤ 1000 := by
  unfold resAr
  split
  · omega
  · exact Nat.zero_le _
theorem byp_len (a : Ar) (nm : ByteArray) : (bypA a nm).m.length = a.m.length := by
  unfold bypA
  split
  · exact List.length_set ..
  · rfl
theorem rep_len (a : Ar) (nm : ByteArray) (q : Int) : (repA a nm q).m.length = a.m.length := by
  unfold repA
  split
  · exact List.length_set ..
  · rfl
set_option maxRecDepth 1000000 in
set_option maxHeartbeats 16000000 in
theorem modules_any (A : Option Addr) (n c : Nat) (a : Ar) (nm : ByteArray) (cg cm : Int) (w : World) (hM : MsAt w w.heap.size A n a.m) (hn : n ≤ maxLen) (hnm : ∀ x ∈ a.m, x.n.size ≤ maxLen) (hsz : nm.size ≤ maxLen) (h64 : -9223372036854775808 ≤ cg ∧ cg ≤ 9223372036854775807) (h65 : -9223372036854775808 ≤ cm ∧ cm ≤ 9223372036854775807) (hT : TabT w) :
    Calls Tryz.prog 8 #[.agg #[.slice A n c, .int .i64 a.lo, .int .i64 a.hi, .int .i64 a.cur, .int .i64 a.lim], .string nm, .agg #[.int .i64 cg, .int .i64 cm]] w fun e w' => e = .returned (.bool true) ∧ Below w.heap.size w w' := by
  have hl := (md_at hM).1
  have hmx : maxLen = 9223372036854775807 := rfl
  rw [hmx] at hn hsz
  have HT := Lib.hid hT
  have HAw := Lib.hid (fun W (hW : Below w.heap.size w W) => awake_ok w W hT hW)
  have HSh := Lib.hid (fun W (hW : Below w.heap.size w W) => Short_any w.heap.size A n c a W (hM.below hW) hW.size (by unfold maxLen; omega))
  clear hmx hT
  by_cases h40 : nm.size ≤ 40
  case neg =>
    have hd : (40 : Int) < (nm.size : Int) := by omega
    have hd2 : decide ((40 : Int) < (nm.size : Int)) = true := decide_eq_true hd
    clear hM hnm hl
    cases hs : shortA a with
    | false =>
      rw [hs] at HSh
      clear hs
      go_enter Tryz.func8, Tryz.ntmps8
      go_wp2_with fail
      refine (HAw.out _ bl_).mono ?_
      rintro e w1 ⟨rfl, hb⟩
      have HA : Hid (Blk w1 w.heap.size 26 #[.slice A n c, .int .i64 a.lo, .int .i64 a.hi, .int .i64 a.cur, .int .i64 a.lim]) := Lib.hid bk_
      have HO : Hid (Blk w1 (w.heap.size + 1) 93 #[.int .i64 cg, .int .i64 cm]) := Lib.hid bk_
      have HL : Hid (Below w.heap.size w w1) := Lib.hid bl_
      have hs1 := HL.out.size
      clear hb
      have cHA := HA.out.cell
      have lHA := HA.out.lt
      have cHO := HO.out.cell
      have lHO := HO.out.lt
      go_wp2_with fail
      refine (HSh.out _ HL.out).mono ?_
      rintro e w2 ⟨rfl, hb⟩
      clear cHA lHA cHO lHO
      have hs2 := hb.size
      have HL' := Lib.hid (HL.out.trans (hb.mono HL.out.size)); clear HL; have HL := HL'; clear HL'
      have HA' := Lib.hid (HA.out.kept hb); clear HA; have HA := HA'; clear HA'
      have HO' := Lib.hid (HO.out.kept hb); clear HO; have HO := HO'; clear HO'
      clear hb
      have cHA := HA.out.cell
      have lHA := HA.out.lt
      have cHO := HO.out.cell
      have lHO := HO.out.lt
      go_wp2_with fail
      refine (HAw.out _ HL.out).mono ?_
      rintro e w3 ⟨rfl, hb⟩
      clear cHA lHA cHO lHO
      have hs3 := hb.size
      have HL' := Lib.hid (HL.out.trans (hb.mono HL.out.size)); clear HL; have HL := HL'; clear HL'
      have HA' := Lib.hid (HA.out.kept hb); clear HA; have HA := HA'; clear HA'
      have HO' := Lib.hid (HO.out.kept hb); clear HO; have HO := HO'; clear HO'
      clear hb
      have cHA := HA.out.cell
      have lHA := HA.out.lt
      have cHO := HO.out.cell
      have lHO := HO.out.lt
      go_wp2_with fail
      go_ret
      exact ⟨rfl, HL.out⟩
    | true =>
      rw [hs] at HSh
      clear hs
      go_enter Tryz.func8, Tryz.ntmps8
      go_wp2_with fail
      refine (HAw.out _ bl_).mono ?_
      rintro e w1 ⟨rfl, hb⟩
      have HA : Hid (Blk w1 w.heap.size 26 #[.slice A n c, .int .i64 a.lo, .int .i64 a.hi, .int .i64 a.cur, .int .i64 a.lim]) := Lib.hid bk_
      have HO : Hid (Blk w1 (w.heap.size + 1) 93 #[.int .i64 cg, .int .i64 cm]) := Lib.hid bk_
      have HL : Hid (Below w.heap.size w w1) := Lib.hid bl_
      have hs1 := HL.out.size
      clear hb
      have cHA := HA.out.cell
      have lHA := HA.out.lt
      have cHO := HO.out.cell
      have lHO := HO.out.lt
      go_wp2_with fail
      refine (HSh.out _ HL.out).mono ?_
      rintro e w2 ⟨rfl, hb⟩
      clear cHA lHA cHO lHO
      have hs2 := hb.size
      have HL' := Lib.hid (HL.out.trans (hb.mono HL.out.size)); clear HL; have HL := HL'; clear HL'
      have HA' := Lib.hid (HA.out.kept hb); clear HA; have HA := HA'; clear HA'
      have HO' := Lib.hid (HO.out.kept hb); clear HO; have HO := HO'; clear HO'
      clear hb
      have cHA := HA.out.cell
      have lHA := HA.out.lt
      have cHO := HO.out.cell
      have lHO := HO.out.lt
      go_wp2_with fail
      refine (HAw.out _ HL.out).mono ?_
      rintro e w3 ⟨rfl, hb⟩
      clear cHA lHA cHO lHO
      have hs3 := hb.size
      have HL' := Lib.hid (HL.out.trans (hb.mono HL.out.size)); clear HL; have HL := HL'; clear HL'
      have HA' := Lib.hid (HA.out.kept hb); clear HA; have HA := HA'; clear HA'
      have HO' := Lib.hid (HO.out.kept hb); clear HO; have HO := HO'; clear HO'
      clear hb
      have cHA := HA.out.cell
      have lHA := HA.out.lt
      have cHO := HO.out.cell
      have lHO := HO.out.lt
      go_wp2_with fail
      go_ret
      exact ⟨rfl, HL.out⟩
  case pos =>
  have hd : ¬ (40 : Int) < (nm.size : Int) := by omega
  have hd2 : decide ((40 : Int) < (nm.size : Int)) = false := decide_eq_false hd
  cases hs : shortA a with
  | false =>
    rw [hs] at HSh
    clear hM hnm hl hs
    go_enter Tryz.func8, Tryz.ntmps8
    go_wp2_with fail
    refine (HAw.out _ bl_).mono ?_
    rintro e w1 ⟨rfl, hb⟩
    have HA : Hid (Blk w1 w.heap.size 26 #[.slice A n c, .int .i64 a.lo, .int .i64 a.hi, .int .i64 a.cur, .int .i64 a.lim]) := Lib.hid bk_
    have HO : Hid (Blk w1 (w.heap.size + 1) 93 #[.int .i64 cg, .int .i64 cm]) := Lib.hid bk_
    have HL : Hid (Below w.heap.size w w1) := Lib.hid bl_
    have hs1 := HL.out.size
    clear hb
    have cHA := HA.out.cell
    have lHA := HA.out.lt
    have cHO := HO.out.cell
    have lHO := HO.out.lt
    go_wp2_with fail
    refine (HSh.out _ HL.out).mono ?_
    rintro e w2 ⟨rfl, hb⟩
    clear cHA lHA cHO lHO
    have hs2 := hb.size
    have HL' := Lib.hid (HL.out.trans (hb.mono HL.out.size)); clear HL; have HL := HL'; clear HL'
    have HA' := Lib.hid (HA.out.kept hb); clear HA; have HA := HA'; clear HA'
    have HO' := Lib.hid (HO.out.kept hb); clear HO; have HO := HO'; clear HO'
    clear hb
    have cHA := HA.out.cell
    have lHA := HA.out.lt
    have cHO := HO.out.cell
    have lHO := HO.out.lt
    go_wp2_with fail
    refine (HAw.out _ HL.out).mono ?_
    rintro e w3 ⟨rfl, hb⟩
    clear cHA lHA cHO lHO
    have hs3 := hb.size
    have HL' := Lib.hid (HL.out.trans (hb.mono HL.out.size)); clear HL; have HL := HL'; clear HL'
    have HA' := Lib.hid (HA.out.kept hb); clear HA; have HA := HA'; clear HA'
    have HO' := Lib.hid (HO.out.kept hb); clear HO; have HO := HO'; clear HO'
    clear hb
    have cHA := HA.out.cell
    have lHA := HA.out.lt
    have cHO := HO.out.cell
    have lHO := HO.out.lt
    go_wp2_with fail
    go_ret
    exact ⟨rfl, HL.out⟩
  | true =>
    rw [hs] at HSh
    have hF := short_fit hs hnm
    have h17 := hF.len
    have hE17 := h17
    rw [hl] at h17
    have HOw := Lib.hid (fun W (hW : Below w.heap.size w W) => own_r w.heap.size A n c a W (hM.below hW) hW.size (by omega))
    have HBy := Lib.hid (fun W A c (hm : MsAt W W.heap.size A n a.m) (hc : n ≤ c) => (Bypass_any W.heap.size A n c a nm W hm (Nat.le_refl _) hF hc).mono fun _ _ => armE_uni)
    have HRp := Lib.hid (fun W A c (hm : MsAt W W.heap.size A n a.m) (hc : n ≤ c) => (Replaced_any W.heap.size A n c a nm cg W hm (Nat.le_refl _) hF hc).mono fun _ _ => armE_uni)
    have HRs := Lib.hid (fun W A c (hm : MsAt W W.heap.size A n a.m) (hc : n ≤ c) => Reserve_any W.heap.size A n c a cm W hm (Nat.le_refl _) hF hc)
    have HGu := Lib.hid (fun W A c (hm : MsAt W W.heap.size A n a.m) (hc : n ≤ c) => Guar_uni W.heap.size A n c a W hm (Nat.le_refl _) hF hc)
    have HCk := Lib.hid (fun W (hW : Below w.heap.size w W) => rCheckArm_any w.heap.size A n c a W (hM.below hW) hW.size hF)
    have HMs := Lib.hid hM
    have HFi := Lib.hid hF
    obtain ⟨ba, hba⟩ : ∃ ba, resAr (bypE a nm) (bypA a nm) = ba := ⟨_, rfl⟩
    obtain ⟨ra, hra⟩ : ∃ ra, resAr (repE a nm cg) (repA a nm cg) = ra := ⟨_, rfl⟩
    obtain ⟨be, hbe⟩ : ∃ be, bypE a nm = be := ⟨_, rfl⟩
    obtain ⟨re, hre⟩ : ∃ re, repE a nm cg = re := ⟨_, rfl⟩
    obtain ⟨se, hse⟩ : ∃ se, resE a cm = se := ⟨_, rfl⟩
    obtain ⟨sv, hsv⟩ : ∃ sv, resV a cm = sv := ⟨_, rfl⟩
    obtain ⟨ee, hee⟩ : ∃ ee, armE a = ee := ⟨_, rfl⟩
    obtain ⟨gv, hgv⟩ : ∃ gv, guaV a = gv := ⟨_, rfl⟩
    rw [hba, hbe] at HBy
    rw [hra, hre] at HRp
    rw [hse, hsv] at HRs
    rw [hgv, hee] at HGu
    rw [hee] at HCk
    have HBa := Lib.hid hba
    have HRa := Lib.hid hra
    have HBe := Lib.hid hbe
    have HRe := Lib.hid hre
    have HSe := Lib.hid hse
    have HSv := Lib.hid hsv
    have HEe := Lib.hid hee
    have HGv := Lib.hid hgv
    have HEl := Lib.hid hl
    have hbl : ba.m.length ≤ 1000 := by
      rw [← hba]
      exact resA_len hE17 (byp_len a nm)
    have hrl : ra.m.length ≤ 1000 := by
      rw [← hra]
      exact resA_len hE17 (rep_len a nm cg)
    have hg0 : ee ≠ 0 → gv = 0 := fun h => by
      rw [← hgv]
      unfold guaV
      rw [if_neg (by rw [hee]; exact h)]
    clear hM hnm hF hs hba hra hbe hre hse hsv hee hgv hl hE17
    go_enter Tryz.func8, Tryz.ntmps8
    go_wp2_with fail
    refine (HAw.out _ bl_).mono ?_
    rintro e w1 ⟨rfl, hb⟩
    have HA : Hid (Blk w1 w.heap.size 26 #[.slice A n c, .int .i64 a.lo, .int .i64 a.hi, .int .i64 a.cur, .int .i64 a.lim]) := Lib.hid bk_
    have HO : Hid (Blk w1 (w.heap.size + 1) 93 #[.int .i64 cg, .int .i64 cm]) := Lib.hid bk_
    have HL : Hid (Below w.heap.size w w1) := Lib.hid bl_
    have hs1 := HL.out.size
    clear hb
    have cHA := HA.out.cell
    have lHA := HA.out.lt
    have cHO := HO.out.cell
    have lHO := HO.out.lt
    go_wp2_with fail
    refine (HSh.out _ HL.out).mono ?_
    rintro e w2 ⟨rfl, hb⟩
    clear cHA lHA cHO lHO
    have hs2 := hb.size
    have HL' := Lib.hid (HL.out.trans (hb.mono HL.out.size)); clear HL; have HL := HL'; clear HL'
    have HA' := Lib.hid (HA.out.kept hb); clear HA; have HA := HA'; clear HA'
    have HO' := Lib.hid (HO.out.kept hb); clear HO; have HO := HO'; clear HO'
    clear hb
    have cHA := HA.out.cell
    have lHA := HA.out.lt
    have cHO := HO.out.cell
    have lHO := HO.out.lt
    go_wp2_with fail
    refine (HOw.out _ HL.out).mono ?_
    rintro e w3 ⟨A3, c3, rfl, hm, hc, hb⟩
    have HM3 := Lib.hid hm; have HC3 := Lib.hid hc; clear hm hc
    clear cHA lHA cHO lHO
    have hs3 := hb.size
    have HL' := Lib.hid (HL.out.trans (hb.mono HL.out.size)); clear HL; have HL := HL'; clear HL'
    have HA' := Lib.hid (HA.out.kept hb); clear HA; have HA := HA'; clear HA'
    have HO' := Lib.hid (HO.out.kept hb); clear HO; have HO := HO'; clear HO'
    clear hb
    have cHA := HA.out.cell
    have lHA := HA.out.lt
    have cHO := HO.out.cell
    have lHO := HO.out.lt
    go_wp2_with fail
    refine (HBy.out _ _ _ HM3.out HC3.out).mono ?_
    rintro e w4 ⟨A4, c4, rfl, hm, hc, hb⟩
    clear HM3 HC3; have HX4 := Lib.hid hm; have HXc4 := Lib.hid hc; clear hm hc
    clear cHA lHA cHO lHO
    have hs4 := hb.size
    have HL' := Lib.hid (HL.out.trans (hb.mono HL.out.size)); clear HL; have HL := HL'; clear HL'
    have HA' := Lib.hid (HA.out.kept hb); clear HA; have HA := HA'; clear HA'
    have HO' := Lib.hid (HO.out.kept hb); clear HO; have HO := HO'; clear HO'
    clear hb
    have cHA := HA.out.cell
    have lHA := HA.out.lt
    have cHO := HO.out.cell
    have lHO := HO.out.lt
    go_upto_region 4 with fail
    refine wp_world ?_
    intro w5 hW
    have hb : Below w4.heap.size w4 w5 := by rw [hW]; exact (Below.refl _ _).alloc (Nat.le_refl _) _
    have HN := Lib.hid (show Blk w5 w4.heap.size 35 #[.slice A4 ba.m.length c4, .int .i64 ba.lo, .int .i64 ba.hi, .int .i64 ba.cur, .int .i64 ba.lim] from by rw [hW]; exact Blk.new _ _ _)
    have HX := Lib.hid (ms_kept HX4.out hb)
    have HXc := HXc4
    obtain ⟨b7, hb7⟩ : ∃ b7, w4.heap.size = b7 := ⟨_, rfl⟩
    rw [hb7] at HN ⊢
    clear hb7 hW HX4 HXc4
    generalize A4 = AX at *
    generalize c4 = cX at *
    clear cHA lHA cHO lHO
    have hs5 := hb.size
    have HL' := Lib.hid (HL.out.trans (hb.mono HL.out.size)); clear HL; have HL := HL'; clear HL'
    have HA' := Lib.hid (HA.out.kept hb); clear HA; have HA := HA'; clear HA'
    have HO' := Lib.hid (HO.out.kept hb); clear HO; have HO := HO'; clear HO'
    clear hb
    have cHA := HA.out.cell
    have lHA := HA.out.lt
    have cHO := HO.out.cell
    have lHO := HO.out.lt
    have cHN := HN.out.cell
    have lHN := HN.out.lt
    go_cut [9, 10] (fun s9 s10 wx => ∃ (b9 : Nat) (Ar : Option Addr) (cr : Nat), s9 = .pointer (some ⟨b9, 0, none⟩) ∧ s10 = .int .i64 re ∧ Blk wx b9 35 #[.slice Ar ra.m.length cr, .int .i64 ra.lo, .int .i64 ra.hi, .int .i64 ra.cur, .int .i64 ra.lim] ∧ MsAt wx wx.heap.size Ar ra.m.length ra.m ∧ ra.m.length ≤ cr ∧ Below w5.heap.size w5 wx)
    case first =>
      as_aux_lemma =>
        clear HRs HGu HCk HBy
        have HP := Lib.hid (Below.refl w5.heap.size w5)
        (refine wp_region_calm [] [0, 2, 3, 4] 8 (by kernel_rfl) rfl (by kernel_rfl) (by kernel_rfl) (by kernel_rfl) ?_; simp only [pickB, List.filterMap_cons, List.filterMap_nil, List.getElem?_toArray, List.getElem?_cons_zero, List.getElem?_cons_succ]; (repeat (first | ((first | (with_reducible refine quietL_plain rfl (fun K hK => ?_)) | (with_reducible refine quietL_want (by with_unfolding_all rfl) (fun K hK => ?_))); (apply Exists.intro; refine ⟨fun wx hx => ?_, ?_⟩; (· (have hcx := ifs_ex hx); simp [go_sem, *, ↓IntWalk.iteOmega] <;> (first | rfl | exact ⟨rfl, rfl⟩ | skip)); (simp only [Act.put, List.setIfInBounds_toArray, List.set_cons_zero, List.set_cons_succ]; refine hK _ ?_; clear hK K))) | ((with_reducible refine quietL_skip (by with_unfolding_all rfl) ?_); simp only [Act.put, List.setIfInBounds_toArray, List.set_cons_zero, List.set_cons_succ]))); refine quietL_nil ?_)
        refine anyB_two (i := 1) (j := 9) (by kernel_rfl) rfl rfl rfl rfl ?_ ?_
        · skip
          intro wc hbc K hK
          have hsc := hbc.size
          (try simp at hsc)
          replace HP := Lib.hid (HP.out.trans (hbc.mono HP.out.size))
          (try replace BB := Lib.hid (BB.out.kept hbc))
          (try replace HMo := Lib.hid (ms_kept HMo.out hbc))
          go_wp2_with fail
          refine (HOw.out _ (HL.out.trans (HP.out.mono HL.out.size))).mono ?_
          rintro e wd ⟨Ao, co, rfl, hm, hc, hbd⟩
          have hsd := hbd.size
          have HMo := Lib.hid hm; have HCo2 := Lib.hid hc; clear hm hc
          replace HP := Lib.hid (HP.out.trans (hbd.mono HP.out.size))
          (try replace BB := Lib.hid (BB.out.kept hbd))
          go_wp2
          refine ⟨xs_, ?_⟩
          refine anyB_two (i := 5) (j := 9) (by kernel_rfl) rfl rfl rfl rfl ?_ ?_
          · skip
            intro we hbe K hK
            have hse := hbe.size
            (try simp at hse)
            replace HP := Lib.hid (HP.out.trans (hbe.mono HP.out.size))
            (try replace BB := Lib.hid (BB.out.kept hbe))
            (try replace HMo := Lib.hid (ms_kept HMo.out hbe))
            go_wp2_with fail
            refine (HRp.out _ _ _ HMo.out HCo2.out).mono ?_
            rintro e wf ⟨Ar, cr, rfl, hm, hc, hbf⟩
            have hsf := hbf.size
            clear HMo HCo2; have HG := Lib.hid hm; have HGc := Lib.hid hc; clear hm hc
            replace HP := Lib.hid (HP.out.trans (hbf.mono HP.out.size))
            (try replace BB := Lib.hid (BB.out.kept hbf))
            go_wp2
            refine ⟨xs_, ?_⟩
            (refine anyB_quiet_at (by kernel_rfl) calm_panic xs_ 3 [6, 7, 8] _ _ (by kernel_rfl) (by decide +kernel) ?_; simp only [pickB, List.filterMap_cons, List.filterMap_nil, List.getElem?_toArray, List.getElem?_cons_zero, List.getElem?_cons_succ]; (repeat (first | ((first | (with_reducible refine quietL_plain rfl (fun K hK => ?_)) | (with_reducible refine quietL_want (by with_unfolding_all rfl) (fun K hK => ?_))); (apply Exists.intro; refine ⟨fun wx hx => ?_, ?_⟩; (· (have hcx := ifs_ex hx); simp [go_sem, *, ↓IntWalk.iteOmega] <;> (first | rfl | exact ⟨rfl, rfl⟩ | fail)); (simp only [Act.put, List.setIfInBounds_toArray, List.set_cons_zero, List.set_cons_succ]; refine hK _ ?_; clear hK K))) | ((with_reducible refine quietL_skip (by with_unfolding_all rfl) ?_); simp only [Act.put, List.setIfInBounds_toArray, List.set_cons_zero, List.set_cons_succ]))); refine quietL_nil ?_)
            refine anyB_one (i := 9) (by kernel_rfl) rfl rfl ?_
            intro wh hbh K hK
            have hsh := hbh.size
            (try simp at hsh)
            replace HP := Lib.hid (HP.out.trans (hbh.mono HP.out.size))
            (try replace HMo := Lib.hid (ms_kept HMo.out hbh))
            (try replace HG := Lib.hid (ms_kept HG.out hbh))
            have hbx : Below wh.heap.size wh (wh.alloc (.cells #[.slice none 0 0, .int .i64 0, .int .i64 0, .int .i64 0, .int .i64 0] 35)) := (Below.refl _ _).alloc (Nat.le_refl _) _
            replace HP := Lib.hid (HP.out.trans (hbx.mono HP.out.size))
            (try replace HMo := Lib.hid (ms_kept HMo.out hbx))
            (try replace HG := Lib.hid (ms_kept HG.out hbx))
            have BB := Lib.hid (Blk.new wh 35 #[.slice none 0 0, .int .i64 0, .int .i64 0, .int .i64 0, .int .i64 0])
            have hwh := HP.out.size
            clear hbx
            go_wp2
            refine ⟨xs_, ?_⟩
            refine anyB_one (i := 10) (by kernel_rfl) rfl rfl ?_
            intro wi hbi K hK
            have hsi := hbi.size
            (try simp at hsi)
            replace HP := Lib.hid (HP.out.trans (hbi.mono HP.out.size))
            replace BB := Lib.hid (BB.out.kept hbi)
            replace HG := Lib.hid (ms_kept HG.out hbi)
            have cB := BB.out.cell
            have fB := BB.out.frozen
            have lB := BB.out.lt
            go_wp2
            refine ⟨xs_, ?_⟩
            have BC := Lib.hid (put5_blk (v0 := .slice Ar ra.m.length cr) (v1 := .int .i64 ra.lo) (v2 := .int .i64 ra.hi) (v3 := .int .i64 ra.cur) (v4 := .int .i64 ra.lim) BB.out)
            have HPc := Lib.hid (put5_low (b := wh.heap.size) (v0 := .slice Ar ra.m.length cr) (v1 := .int .i64 ra.lo) (v2 := .int .i64 ra.hi) (v3 := .int .i64 ra.cur) (v4 := .int .i64 ra.lim) HP.out (by omega))
            have HGc5 := Lib.hid (ms_put5 (b := wh.heap.size) (v0 := .slice Ar ra.m.length cr) (v1 := .int .i64 ra.lo) (v2 := .int .i64 ra.hi) (v3 := .int .i64 ra.cur) (v4 := .int .i64 ra.lim) HG.out BB.out)
            clear cB fB lB HP BB HG
            refine anyB_one (i := 11) (by kernel_rfl) rfl rfl ?_
            intro wj hbj K hK
            have hsj := hbj.size
            (try simp at hsj)
            go_wp2
            refine ⟨xs_, ?_⟩
            refine anyB_end (by kernel_rfl) ?_
            intro wk hbk
            have hsk := hbk.size
            simp only [Calm]
            have BE := Lib.hid ((BC.out.kept hbj).kept hbk)
            have HPe := Lib.hid ((HPc.out.trans (hbj.mono HPc.out.size)).trans (hbk.mono (by have := HPc.out.size; omega)))
            have HGe := Lib.hid (ms_kept (ms_kept HGc5.out hbj) hbk)
            go_wp2_with fail
            go_meet
            case rel => exact ⟨wh.heap.size, Ar, cr, rfl, rfl, BE.out, HGe.out, HGc.out, HPe.out⟩
          · skip
            intro wh hbh K hK
            have hsh := hbh.size
            (try simp at hsh)
            replace HP := Lib.hid (HP.out.trans (hbh.mono HP.out.size))
            (try replace HMo := Lib.hid (ms_kept HMo.out hbh))
            (try replace HG := Lib.hid (ms_kept HG.out hbh))
            have hbx : Below wh.heap.size wh (wh.alloc (.cells #[.slice none 0 0, .int .i64 0, .int .i64 0, .int .i64 0, .int .i64 0] 35)) := (Below.refl _ _).alloc (Nat.le_refl _) _
            replace HP := Lib.hid (HP.out.trans (hbx.mono HP.out.size))
            (try replace HMo := Lib.hid (ms_kept HMo.out hbx))
            (try replace HG := Lib.hid (ms_kept HG.out hbx))
            have BB := Lib.hid (Blk.new wh 35 #[.slice none 0 0, .int .i64 0, .int .i64 0, .int .i64 0, .int .i64 0])
            have hwh := HP.out.size
            clear hbx
            go_wp2
            refine ⟨xs_, ?_⟩
            refine anyB_one (i := 5) (by kernel_rfl) rfl rfl ?_
            intro we hbe K hK
            have hse := hbe.size
            (try simp at hse)
            replace HP := Lib.hid (HP.out.trans (hbe.mono HP.out.size))
            (try replace BB := Lib.hid (BB.out.kept hbe))
            (try replace HMo := Lib.hid (ms_kept HMo.out hbe))
            go_wp2_with fail
            refine (HRp.out _ _ _ HMo.out HCo2.out).mono ?_
            rintro e wf ⟨Ar, cr, rfl, hm, hc, hbf⟩
            have hsf := hbf.size
            clear HMo HCo2; have HG := Lib.hid hm; have HGc := Lib.hid hc; clear hm hc
            replace HP := Lib.hid (HP.out.trans (hbf.mono HP.out.size))
            (try replace BB := Lib.hid (BB.out.kept hbf))
            go_wp2
            refine ⟨xs_, ?_⟩
            (refine anyB_quiet_at (by kernel_rfl) calm_panic xs_ 2 [6, 7, 8] _ _ (by kernel_rfl) (by decide +kernel) ?_; simp only [pickB, List.filterMap_cons, List.filterMap_nil, List.getElem?_toArray, List.getElem?_cons_zero, List.getElem?_cons_succ]; (repeat (first | ((first | (with_reducible refine quietL_plain rfl (fun K hK => ?_)) | (with_reducible refine quietL_want (by with_unfolding_all rfl) (fun K hK => ?_))); (apply Exists.intro; refine ⟨fun wx hx => ?_, ?_⟩; (· (have hcx := ifs_ex hx); simp [go_sem, *, ↓IntWalk.iteOmega] <;> (first | rfl | exact ⟨rfl, rfl⟩ | fail)); (simp only [Act.put, List.setIfInBounds_toArray, List.set_cons_zero, List.set_cons_succ]; refine hK _ ?_; clear hK K))) | ((with_reducible refine quietL_skip (by with_unfolding_all rfl) ?_); simp only [Act.put, List.setIfInBounds_toArray, List.set_cons_zero, List.set_cons_succ]))); refine quietL_nil ?_)
            refine anyB_one (i := 10) (by kernel_rfl) rfl rfl ?_
            intro wi hbi K hK
            have hsi := hbi.size
            (try simp at hsi)
            replace HP := Lib.hid (HP.out.trans (hbi.mono HP.out.size))
            replace BB := Lib.hid (BB.out.kept hbi)
            replace HG := Lib.hid (ms_kept HG.out hbi)
            have cB := BB.out.cell
            have fB := BB.out.frozen
            have lB := BB.out.lt
            go_wp2
            refine ⟨xs_, ?_⟩
            have BC := Lib.hid (put5_blk (v0 := .slice Ar ra.m.length cr) (v1 := .int .i64 ra.lo) (v2 := .int .i64 ra.hi) (v3 := .int .i64 ra.cur) (v4 := .int .i64 ra.lim) BB.out)
            have HPc := Lib.hid (put5_low (b := wh.heap.size) (v0 := .slice Ar ra.m.length cr) (v1 := .int .i64 ra.lo) (v2 := .int .i64 ra.hi) (v3 := .int .i64 ra.cur) (v4 := .int .i64 ra.lim) HP.out (by omega))
            have HGc5 := Lib.hid (ms_put5 (b := wh.heap.size) (v0 := .slice Ar ra.m.length cr) (v1 := .int .i64 ra.lo) (v2 := .int .i64 ra.hi) (v3 := .int .i64 ra.cur) (v4 := .int .i64 ra.lim) HG.out BB.out)
            clear cB fB lB HP BB HG
            refine anyB_one (i := 11) (by kernel_rfl) rfl rfl ?_
            intro wj hbj K hK
            have hsj := hbj.size
            (try simp at hsj)
            go_wp2
            refine ⟨xs_, ?_⟩
            refine anyB_end (by kernel_rfl) ?_
            intro wk hbk
            have hsk := hbk.size
            simp only [Calm]
            have BE := Lib.hid ((BC.out.kept hbj).kept hbk)
            have HPe := Lib.hid ((HPc.out.trans (hbj.mono HPc.out.size)).trans (hbk.mono (by have := HPc.out.size; omega)))
            have HGe := Lib.hid (ms_kept (ms_kept HGc5.out hbj) hbk)
            go_wp2_with fail
            go_meet
            case rel => exact ⟨wh.heap.size, Ar, cr, rfl, rfl, BE.out, HGe.out, HGc.out, HPe.out⟩
        · skip
          intro wh hbh K hK
          have hsh := hbh.size
          (try simp at hsh)
          replace HP := Lib.hid (HP.out.trans (hbh.mono HP.out.size))
          (try replace HMo := Lib.hid (ms_kept HMo.out hbh))
          (try replace HG := Lib.hid (ms_kept HG.out hbh))
          have hbx : Below wh.heap.size wh (wh.alloc (.cells #[.slice none 0 0, .int .i64 0, .int .i64 0, .int .i64 0, .int .i64 0] 35)) := (Below.refl _ _).alloc (Nat.le_refl _) _
          replace HP := Lib.hid (HP.out.trans (hbx.mono HP.out.size))
          (try replace HMo := Lib.hid (ms_kept HMo.out hbx))
          (try replace HG := Lib.hid (ms_kept HG.out hbx))
          have BB := Lib.hid (Blk.new wh 35 #[.slice none 0 0, .int .i64 0, .int .i64 0, .int .i64 0, .int .i64 0])
          have hwh := HP.out.size
          clear hbx
          go_wp2
          refine ⟨xs_, ?_⟩
          refine anyB_one (i := 1) (by kernel_rfl) rfl rfl ?_
          intro wc hbc K hK
          have hsc := hbc.size
          (try simp at hsc)
          replace HP := Lib.hid (HP.out.trans (hbc.mono HP.out.size))
          (try replace BB := Lib.hid (BB.out.kept hbc))
          (try replace HMo := Lib.hid (ms_kept HMo.out hbc))
          go_wp2_with fail
          refine (HOw.out _ (HL.out.trans (HP.out.mono HL.out.size))).mono ?_
          rintro e wd ⟨Ao, co, rfl, hm, hc, hbd⟩
          have hsd := hbd.size
          have HMo := Lib.hid hm; have HCo2 := Lib.hid hc; clear hm hc
          replace HP := Lib.hid (HP.out.trans (hbd.mono HP.out.size))
          (try replace BB := Lib.hid (BB.out.kept hbd))
          go_wp2
          refine ⟨xs_, ?_⟩
          refine anyB_one (i := 5) (by kernel_rfl) rfl rfl ?_
          intro we hbe K hK
          have hse := hbe.size
          (try simp at hse)
          replace HP := Lib.hid (HP.out.trans (hbe.mono HP.out.size))
          (try replace BB := Lib.hid (BB.out.kept hbe))
          (try replace HMo := Lib.hid (ms_kept HMo.out hbe))
          go_wp2_with fail
          refine (HRp.out _ _ _ HMo.out HCo2.out).mono ?_
          rintro e wf ⟨Ar, cr, rfl, hm, hc, hbf⟩
          have hsf := hbf.size
          clear HMo HCo2; have HG := Lib.hid hm; have HGc := Lib.hid hc; clear hm hc
          replace HP := Lib.hid (HP.out.trans (hbf.mono HP.out.size))
          (try replace BB := Lib.hid (BB.out.kept hbf))
          go_wp2
          refine ⟨xs_, ?_⟩
          (refine anyB_quiet_at (by kernel_rfl) calm_panic xs_ 2 [6, 7, 8] _ _ (by kernel_rfl) (by decide +kernel) ?_; simp only [pickB, List.filterMap_cons, List.filterMap_nil, List.getElem?_toArray, List.getElem?_cons_zero, List.getElem?_cons_succ]; (repeat (first | ((first | (with_reducible refine quietL_plain rfl (fun K hK => ?_)) | (with_reducible refine quietL_want (by with_unfolding_all rfl) (fun K hK => ?_))); (apply Exists.intro; refine ⟨fun wx hx => ?_, ?_⟩; (· (have hcx := ifs_ex hx); simp [go_sem, *, ↓IntWalk.iteOmega] <;> (first | rfl | exact ⟨rfl, rfl⟩ | fail)); (simp only [Act.put, List.setIfInBounds_toArray, List.set_cons_zero, List.set_cons_succ]; refine hK _ ?_; clear hK K))) | ((with_reducible refine quietL_skip (by with_unfolding_all rfl) ?_); simp only [Act.put, List.setIfInBounds_toArray, List.set_cons_zero, List.set_cons_succ]))); refine quietL_nil ?_)
          refine anyB_one (i := 10) (by kernel_rfl) rfl rfl ?_
          intro wi hbi K hK
          have hsi := hbi.size
          (try simp at hsi)
          replace HP := Lib.hid (HP.out.trans (hbi.mono HP.out.size))
          replace BB := Lib.hid (BB.out.kept hbi)
          replace HG := Lib.hid (ms_kept HG.out hbi)
          have cB := BB.out.cell
          have fB := BB.out.frozen
          have lB := BB.out.lt
          go_wp2
          refine ⟨xs_, ?_⟩
          have BC := Lib.hid (put5_blk (v0 := .slice Ar ra.m.length cr) (v1 := .int .i64 ra.lo) (v2 := .int .i64 ra.hi) (v3 := .int .i64 ra.cur) (v4 := .int .i64 ra.lim) BB.out)
          have HPc := Lib.hid (put5_low (b := wh.heap.size) (v0 := .slice Ar ra.m.length cr) (v1 := .int .i64 ra.lo) (v2 := .int .i64 ra.hi) (v3 := .int .i64 ra.cur) (v4 := .int .i64 ra.lim) HP.out (by omega))
          have HGc5 := Lib.hid (ms_put5 (b := wh.heap.size) (v0 := .slice Ar ra.m.length cr) (v1 := .int .i64 ra.lo) (v2 := .int .i64 ra.hi) (v3 := .int .i64 ra.cur) (v4 := .int .i64 ra.lim) HG.out BB.out)
          clear cB fB lB HP BB HG
          refine anyB_one (i := 11) (by kernel_rfl) rfl rfl ?_
          intro wj hbj K hK
          have hsj := hbj.size
          (try simp at hsj)
          go_wp2
          refine ⟨xs_, ?_⟩
          refine anyB_end (by kernel_rfl) ?_
          intro wk hbk
          have hsk := hbk.size
          simp only [Calm]
          have BE := Lib.hid ((BC.out.kept hbj).kept hbk)
          have HPe := Lib.hid ((HPc.out.trans (hbj.mono HPc.out.size)).trans (hbk.mono (by have := HPc.out.size; omega)))
          have HGe := Lib.hid (ms_kept (ms_kept HGc5.out hbj) hbk)
          go_wp2_with fail
          go_meet
          case rel => exact ⟨wh.heap.size, Ar, cr, rfl, rfl, BE.out, HGe.out, HGc.out, HPe.out⟩
    rename World => w6
    obtain ⟨b9, AY, cY, rfl, rfl, h9, hy, hyc, hb⟩ := hcut
    have HR := Lib.hid h9
    have HY := Lib.hid hy
    have HYc := Lib.hid hyc
    clear h9 hy hyc HRp
    clear cHA lHA cHO lHO cHN lHN
    have hs6 := hb.size
    have HL' := Lib.hid (HL.out.trans (hb.mono HL.out.size)); clear HL; have HL := HL'; clear HL'
    have HA' := Lib.hid (HA.out.kept hb); clear HA; have HA := HA'; clear HA'
    have HO' := Lib.hid (HO.out.kept hb); clear HO; have HO := HO'; clear HO'
    have HN' := Lib.hid (HN.out.kept hb); clear HN; have HN := HN'; clear HN'
    have HX' := Lib.hid (ms_kept HX.out hb); clear HX; have HX := HX'; clear HX'
    clear hb
    have cHA := HA.out.cell
    have lHA := HA.out.lt
    have cHO := HO.out.cell
    have lHO := HO.out.lt
    have cHN := HN.out.cell
    have lHN := HN.out.lt
    have cHR := HR.out.cell
    have lHR := HR.out.lt
    go_wp2_with fail
    (refine wp_region_calm [] [0, 2, 3] 7 (by kernel_rfl) rfl (by kernel_rfl) (by kernel_rfl) (by kernel_rfl) ?_; simp only [pickB, List.filterMap_cons, List.filterMap_nil, List.getElem?_toArray, List.getElem?_cons_zero, List.getElem?_cons_succ]; (repeat (first | ((first | (with_reducible refine quietL_plain rfl (fun K hK => ?_)) | (with_reducible refine quietL_want (by with_unfolding_all rfl) (fun K hK => ?_))); (apply Exists.intro; refine ⟨fun wx hx => ?_, ?_⟩; (· (have hcx := ifs_ex hx); simp [go_sem, *, ↓IntWalk.iteOmega] <;> (first | rfl | exact ⟨rfl, rfl⟩ | fail)); (simp only [Act.put, List.setIfInBounds_toArray, List.set_cons_zero, List.set_cons_succ]; refine hK _ ?_; clear hK K))) | ((with_reducible refine quietL_skip (by with_unfolding_all rfl) ?_); simp only [Act.put, List.setIfInBounds_toArray, List.set_cons_zero, List.set_cons_succ]))); refine quietL_nil ?_)
    (refine anyB_one (i := 1) (by kernel_rfl) rfl rfl ?_; intro w7 hb7 K hK; have hs7 := hb7.size; (try simp at hs7); go_wp2_with fail)
    refine (HOw.out _ (HL.out.trans (hb7.mono HL.out.size))).mono ?_
    rintro e w8 ⟨Ao, co, rfl, hm, hc, hb8⟩
    have hs8 := hb8.size
    have HMo := Lib.hid hm; have HKo := Lib.hid hc; clear hm hc
    (go_wp2; refine ⟨xs_, ?_⟩)
    (refine anyB_one (i := 4) (by kernel_rfl) rfl rfl ?_; intro w9 hb9 K hK; have hs9 := hb9.size; (try simp at hs9); go_wp2_with fail)
    refine (HRs.out _ _ _ (ms_kept HMo.out hb9) HKo.out).mono ?_
    rintro e w10 ⟨rfl, hb10⟩
    have hs10 := hb10.size
    clear HMo HKo
    (go_wp2; refine ⟨xs_, ?_⟩)
    (refine anyB_quiet_at (by kernel_rfl) calm_panic xs_ 2 [5, 6, 7] _ _ (by kernel_rfl) (by decide +kernel) ?_; simp only [pickB, List.filterMap_cons, List.filterMap_nil, List.getElem?_toArray, List.getElem?_cons_zero, List.getElem?_cons_succ]; (repeat (first | ((first | (with_reducible refine quietL_plain rfl (fun K hK => ?_)) | (with_reducible refine quietL_want (by with_unfolding_all rfl) (fun K hK => ?_))); (apply Exists.intro; refine ⟨fun wx hx => ?_, ?_⟩; (· (have hcx := ifs_ex hx); simp [go_sem, *, ↓IntWalk.iteOmega] <;> (first | rfl | exact ⟨rfl, rfl⟩ | fail)); (simp only [Act.put, List.setIfInBounds_toArray, List.set_cons_zero, List.set_cons_succ]; refine hK _ ?_; clear hK K))) | ((with_reducible refine quietL_skip (by with_unfolding_all rfl) ?_); simp only [Act.put, List.setIfInBounds_toArray, List.set_cons_zero, List.set_cons_succ]))); refine quietL_nil ?_)
    (refine anyB_one (i := 8) (by kernel_rfl) rfl rfl ?_; intro w11 hb11 K hK; have hs11 := hb11.size; (try simp at hs11); go_wp2; refine ⟨xs_, ?_⟩)
    (refine anyB_one (i := 9) (by kernel_rfl) rfl rfl ?_; intro w12 hb12 K hK; have hs12 := hb12.size; (try simp at hs12); go_wp2; refine ⟨xs_, ?_⟩)
    (refine anyB_end (by kernel_rfl) ?_; intro w13 hb13; have hs13 := hb13.size; (try simp at hs13); simp only [Calm])
    have hb := hb7.trans ((hb8.trans ((hb9.trans ((hb10.trans ((hb11.trans ((hb12.trans ((hb13).mono hs12)).mono hs11)).mono hs10)).mono hs9)).mono hs8)).mono hs7)
    clear hb7 hb8 hb9 hb10 hb11 hb12 hb13 hs7 hs8 hs9 hs10 hs11 hs12 hs13
    clear cHA lHA cHO lHO cHN lHN cHR lHR
    have hs13 := hb.size
    have HL' := Lib.hid (HL.out.trans (hb.mono HL.out.size)); clear HL; have HL := HL'; clear HL'
    have HA' := Lib.hid (HA.out.kept hb); clear HA; have HA := HA'; clear HA'
    have HO' := Lib.hid (HO.out.kept hb); clear HO; have HO := HO'; clear HO'
    have HN' := Lib.hid (HN.out.kept hb); clear HN; have HN := HN'; clear HN'
    have HX' := Lib.hid (ms_kept HX.out hb); clear HX; have HX := HX'; clear HX'
    have HR' := Lib.hid (HR.out.kept hb); clear HR; have HR := HR'; clear HR'
    have HY' := Lib.hid (ms_kept HY.out hb); clear HY; have HY := HY'; clear HY'
    clear hb
    have cHA := HA.out.cell
    have lHA := HA.out.lt
    have cHO := HO.out.cell
    have lHO := HO.out.lt
    have cHN := HN.out.cell
    have lHN := HN.out.lt
    have cHR := HR.out.cell
    have lHR := HR.out.lt
    go_wp2_with fail
    refine (HOw.out _ HL.out).mono ?_
    rintro e w14 ⟨A14, c14, rfl, hm, hc, hb⟩
    have HM14 := Lib.hid hm; have HC14 := Lib.hid hc; clear hm hc
    clear cHA lHA cHO lHO cHN lHN cHR lHR
    have hs14 := hb.size
    have HL' := Lib.hid (HL.out.trans (hb.mono HL.out.size)); clear HL; have HL := HL'; clear HL'
    have HA' := Lib.hid (HA.out.kept hb); clear HA; have HA := HA'; clear HA'
    have HO' := Lib.hid (HO.out.kept hb); clear HO; have HO := HO'; clear HO'
    have HN' := Lib.hid (HN.out.kept hb); clear HN; have HN := HN'; clear HN'
    have HX' := Lib.hid (ms_kept HX.out hb); clear HX; have HX := HX'; clear HX'
    have HR' := Lib.hid (HR.out.kept hb); clear HR; have HR := HR'; clear HR'
    have HY' := Lib.hid (ms_kept HY.out hb); clear HY; have HY := HY'; clear HY'
    clear hb
    have cHA := HA.out.cell
    have lHA := HA.out.lt
    have cHO := HO.out.cell
    have lHO := HO.out.lt
    have cHN := HN.out.cell
    have lHN := HN.out.lt
    have cHR := HR.out.cell
    have lHR := HR.out.lt
    go_wp2_with fail
    refine (HGu.out _ _ _ HM14.out HC14.out).mono ?_
    rintro e w15 ⟨rfl, hb⟩
    clear HM14 HC14
    clear cHA lHA cHO lHO cHN lHN cHR lHR
    have hs15 := hb.size
    have HL' := Lib.hid (HL.out.trans (hb.mono HL.out.size)); clear HL; have HL := HL'; clear HL'
    have HA' := Lib.hid (HA.out.kept hb); clear HA; have HA := HA'; clear HA'
    have HO' := Lib.hid (HO.out.kept hb); clear HO; have HO := HO'; clear HO'
    have HN' := Lib.hid (HN.out.kept hb); clear HN; have HN := HN'; clear HN'
    have HX' := Lib.hid (ms_kept HX.out hb); clear HX; have HX := HX'; clear HX'
    have HR' := Lib.hid (HR.out.kept hb); clear HR; have HR := HR'; clear HR'
    have HY' := Lib.hid (ms_kept HY.out hb); clear HY; have HY := HY'; clear HY'
    clear hb
    have cHA := HA.out.cell
    have lHA := HA.out.lt
    have cHO := HO.out.cell
    have lHO := HO.out.lt
    have cHN := HN.out.cell
    have lHN := HN.out.lt
    have cHR := HR.out.cell
    have lHR := HR.out.lt
    go_wp2_with fail
    refine (HCk.out _ HL.out).mono ?_
    rintro e w16 ⟨rfl, hb⟩
    clear cHA lHA cHO lHO cHN lHN cHR lHR
    have hs16 := hb.size
    have HL' := Lib.hid (HL.out.trans (hb.mono HL.out.size)); clear HL; have HL := HL'; clear HL'
    have HA' := Lib.hid (HA.out.kept hb); clear HA; have HA := HA'; clear HA'
    have HO' := Lib.hid (HO.out.kept hb); clear HO; have HO := HO'; clear HO'
    have HN' := Lib.hid (HN.out.kept hb); clear HN; have HN := HN'; clear HN'
    have HX' := Lib.hid (ms_kept HX.out hb); clear HX; have HX := HX'; clear HX'
    have HR' := Lib.hid (HR.out.kept hb); clear HR; have HR := HR'; clear HR'
    have HY' := Lib.hid (ms_kept HY.out hb); clear HY; have HY := HY'; clear HY'
    clear hb
    have cHA := HA.out.cell
    have lHA := HA.out.lt
    have cHO := HO.out.cell
    have lHO := HO.out.lt
    have cHN := HN.out.cell
    have lHN := HN.out.lt
    have cHR := HR.out.cell
    have lHR := HR.out.lt
    clear HBy HRs HGu HCk HOw
    go_wp2_with fail
    refine (calls_below (rRange_any cm 0 16 _)).mono ?_
    rintro e w17 ⟨rfl, hb⟩
    clear cHA lHA cHO lHO cHN lHN cHR lHR
    have hs17 := hb.size
    have HL' := Lib.hid (HL.out.trans (hb.mono HL.out.size)); clear HL; have HL := HL'; clear HL'
    have HA' := Lib.hid (HA.out.kept hb); clear HA; have HA := HA'; clear HA'
    have HO' := Lib.hid (HO.out.kept hb); clear HO; have HO := HO'; clear HO'
    have HN' := Lib.hid (HN.out.kept hb); clear HN; have HN := HN'; clear HN'
    have HX' := Lib.hid (ms_kept HX.out hb); clear HX; have HX := HX'; clear HX'
    have HR' := Lib.hid (HR.out.kept hb); clear HR; have HR := HR'; clear HR'
    have HY' := Lib.hid (ms_kept HY.out hb); clear HY; have HY := HY'; clear HY'
    clear hb
    have cHA := HA.out.cell
    have lHA := HA.out.lt
    have cHO := HO.out.cell
    have lHO := HO.out.lt
    have cHN := HN.out.cell
    have lHN := HN.out.lt
    have cHR := HR.out.cell
    have lHR := HR.out.lt
    go_wp2_with fail
    refine (calls_below (rFirst_any (w17.heap.size + 1) _ 2 2 [ee, ckR cm 0 16] _ (by simpa using Reads.new (size := 1) w17 (([ee, ckR cm 0 16]).map (.int .i64)).toArray 3 2 rfl) (by unfold maxLen; decide))).mono ?_
    rintro e w18 ⟨rfl, hb⟩
    clear cHA lHA cHO lHO cHN lHN cHR lHR
    have hb := ((Below.refl _ _).alloc (Nat.le_refl _) _).trans (hb.mono (by simp))
    have hs18 := hb.size
    have HL' := Lib.hid (HL.out.trans (hb.mono HL.out.size)); clear HL; have HL := HL'; clear HL'
    have HA' := Lib.hid (HA.out.kept hb); clear HA; have HA := HA'; clear HA'
    have HO' := Lib.hid (HO.out.kept hb); clear HO; have HO := HO'; clear HO'
    have HN' := Lib.hid (HN.out.kept hb); clear HN; have HN := HN'; clear HN'
    have HX' := Lib.hid (ms_kept HX.out hb); clear HX; have HX := HX'; clear HX'
    have HR' := Lib.hid (HR.out.kept hb); clear HR; have HR := HR'; clear HR'
    have HY' := Lib.hid (ms_kept HY.out hb); clear HY; have HY := HY'; clear HY'
    clear hb
    have cHA := HA.out.cell
    have lHA := HA.out.lt
    have cHO := HO.out.cell
    have lHO := HO.out.lt
    have cHN := HN.out.cell
    have lHN := HN.out.lt
    have cHR := HR.out.cell
    have lHR := HR.out.lt
    obtain ⟨t3, ht3⟩ : ∃ t3, firstE [ee, ckR cm 0 16] = t3 := ⟨_, rfl⟩
    rw [ht3]
    have HT3 := Lib.hid ht3
    clear ht3
    go_upto_if 78 with fail
    refine wp_world ?_
    intro W0 hW0
    have hbW : Below w18.heap.size w18 W0 := by rw [hW0]; exact ((Below.refl _ _).alloc (Nat.le_refl _) _).alloc (by simp) _
    have H19 := Lib.hid (show Blk W0 w18.heap.size 26 #[.slice none 0 0, .int .i64 0, .int .i64 0, .int .i64 0, .int .i64 0] from by rw [hW0]; exact (Blk.new _ _ _).alloc _)
    have H20 := Lib.hid (show Blk W0 (w18.heap.size + 1) 26 #[.slice none 0 0, .int .i64 0, .int .i64 0, .int .i64 0, .int .i64 0] from by rw [hW0]; exact (by simpa using Blk.new (w18.alloc (.cells #[.slice none 0 0, .int .i64 0, .int .i64 0, .int .i64 0, .int .i64 0] 26)) 26 #[.slice none 0 0, .int .i64 0, .int .i64 0, .int .i64 0, .int .i64 0]))
    have HbW := Lib.hid hbW
    have hsW := H20.out.lt
    have hsk := HL.out.size
    clear hW0 hbW
    go_cut [16, 17, 22, 23] (fun s16 s17 s22 s23 wx => ∃ (A1 A2 : Option Addr) (c1 c2 : Nat), s16 = .int .i64 be ∧ s17 = .int .i64 re ∧ s22 = .int .i64 gv ∧ Blk wx w18.heap.size 26 #[.slice A1 ba.m.length c1, .int .i64 ba.lo, .int .i64 ba.hi, .int .i64 ba.cur, .int .i64 ba.lim] ∧ MsAt wx wx.heap.size A1 ba.m.length ba.m ∧ Blk wx (w18.heap.size + 1) 26 #[.slice A2 ra.m.length c2, .int .i64 ra.lo, .int .i64 ra.hi, .int .i64 ra.cur, .int .i64 ra.lim] ∧ MsAt wx wx.heap.size A2 ra.m.length ra.m ∧ Below w18.heap.size w18 wx)
    case first =>
      as_aux_lemma =>
        (try clear cHN); (try clear lHN); (try clear cHR); (try clear lHR); (try clear HN); (try clear HX); (try clear HR); (try clear HY); (try clear HXc); (try clear HYc); (try clear cHZ1); (try clear lHZ1); (try clear cHZ2); (try clear lHZ2)
        clear cHA lHA cHO lHO
        have hAk := HA.out
        have hskk := HO.out.lt
        have hOk := HO.out
        have hLk := HL.out
        have hA0 := HA.out.kept HbW.out
        have hO0 := HO.out.kept HbW.out
        have hL0 := HL.out.trans (HbW.out.mono HL.out.size)
        clear HA HO HL
        have HA := Lib.hid hA0
        have HO := Lib.hid hO0
        have HL := Lib.hid hL0
        have HK := HbW
        have HAk := Lib.hid hAk
        have HOk := Lib.hid hOk
        have HLk := Lib.hid hLk
        clear hAk hOk hLk
        clear hA0 hO0 hL0 HbW
        have cHA := HA.out.cell
        have lHA := HA.out.lt
        have cHO := HO.out.cell
        have lHO := HO.out.lt
        by_cases h0 : ee = 0
        case neg =>
          have hne : (ee == 0) = false := by simpa using h0
          have hE : armE a ≠ 0 := by rw [HEe.out]; exact h0
          obtain ⟨e1, e2, _, _⟩ := mods_bad hE nm cg cm
          have hbe : ee = be := by rw [← HBe.out, e1, HEe.out]
          have hre : ee = re := by rw [← HRe.out, e2, HEe.out]
          have hba : ba = nilA := by rw [← HBa.out, e1]; unfold resAr; exact if_neg hE
          have hra : ra = nilA := by rw [← HRa.out, e2]; unfold resAr; exact if_neg hE
          have hgv : (0 : Int) = gv := by rw [← HGv.out]; unfold guaV; rw [if_neg hE]
          have HX := Lib.hid (And.intro hbe (And.intro hre (And.intro hba (And.intro hra hgv))))
          clear hbe hre hba hra hgv e1 e2
          go_wp2_with fail
          go_meet
          case rel =>
            obtain ⟨hbe, hre, hba, hra, hgv⟩ := HX.out
            exact ⟨none, none, 0, 0, by rw [hbe], by rw [hre], by rw [hgv], by rw [hba]; exact H19.out, by rw [hba]; exact ms_nil _ _, by rw [hra]; exact H20.out, by rw [hra]; exact ms_nil _ _, HK.out⟩
        case pos =>
        subst h0
        have hE : armE a = 0 := HEe.out
        have HrG := Lib.hid (fun W (hW : Below w.heap.size w W) => rGuaranteed_any w.heap.size A n c a W (HMs.out.below hW) hW.size h17 hE)
        have hgv : (guarL a : Int) = gv := by rw [← HGv.out]; unfold guaV; rw [if_pos hE]
        rw [hgv] at HrG
        have HFd := Lib.hid (fun W (hW : Below w.heap.size w W) => rFind_any w.heap.size A n c a nm n W (HMs.out.below hW) hW.size (Nat.le_refl _) (by omega))
        have hix : idxP (nmP nm) 0 (a.m.take n) = mdIdx a.m nm := by rw [List.take_of_length_le (by rw [HEl.out]; exact Nat.le_refl _)]; rfl
        rw [hix] at HFd
        obtain ⟨ix, hixe⟩ : ∃ ix, mdIdx a.m nm = ix := ⟨_, rfl⟩
        rw [hixe] at HFd
        have HIx := Lib.hid hixe
        clear hgv hix hixe hE
        go_wp2_with fail
        refine (HrG.out _ HL.out).mono ?_
        rintro e wa ⟨rfl, hb⟩
        clear cHA lHA cHO lHO
        have HL' := Lib.hid (HL.out.trans (hb.mono HL.out.size)); clear HL; have HL := HL'; clear HL'
        have HA' := Lib.hid (HA.out.kept hb); clear HA; have HA := HA'; clear HA'
        have HO' := Lib.hid (HO.out.kept hb); clear HO; have HO := HO'; clear HO'
        have H19' := Lib.hid (H19.out.kept hb); clear H19; have H19 := H19'; clear H19'
        have H20' := Lib.hid (H20.out.kept hb); clear H20; have H20 := H20'; clear H20'
        have HK' := Lib.hid (HK.out.trans (hb.mono HK.out.size)); clear HK; have HK := HK'; clear HK'
        have hswa := HK.out.size
        clear hb
        have cHA := HA.out.cell
        have lHA := HA.out.lt
        have cHO := HO.out.cell
        have lHO := HO.out.lt
        go_wp2_with fail
        refine (HFd.out _ HL.out).mono ?_
        rintro e wb ⟨rfl, hb⟩
        clear cHA lHA cHO lHO
        have HL' := Lib.hid (HL.out.trans (hb.mono HL.out.size)); clear HL; have HL := HL'; clear HL'
        have HA' := Lib.hid (HA.out.kept hb); clear HA; have HA := HA'; clear HA'
        have HO' := Lib.hid (HO.out.kept hb); clear HO; have HO := HO'; clear HO'
        have H19' := Lib.hid (H19.out.kept hb); clear H19; have H19 := H19'; clear H19'
        have H20' := Lib.hid (H20.out.kept hb); clear H20; have H20 := H20'; clear H20'
        have HK' := Lib.hid (HK.out.trans (hb.mono HK.out.size)); clear HK; have HK := HK'; clear HK'
        have hswb := HK.out.size
        clear hb
        have cHA := HA.out.cell
        have lHA := HA.out.lt
        have cHO := HO.out.cell
        have lHO := HO.out.lt
        clear HrG HFd
        rcases Int.lt_or_le ix 0 with hi | hi
        · have hid : decide (0 ≤ ix) = false := by simp; omega
          have hin : ¬ 0 ≤ ix := by omega
          obtain ⟨e1, e2⟩ := mods_none HEe.out (nm := nm) (by rw [HIx.out]; exact hi) cg
          have HX : Hid ((10 : Int) = be ∧ (10 : Int) = re ∧ ba = nilA ∧ ra = nilA) := Lib.hid ⟨by rw [← HBe.out, e1], by rw [← HRe.out, e2], by rw [← HBa.out, e1]; rfl, by rw [← HRa.out, e2]; rfl⟩
          clear e1 e2 hi
          go_wp2_with fail
          go_meet
          case rel =>
            obtain ⟨hbe, hre, hba, hra⟩ := HX.out
            have hgv : gv = gv := rfl
            exact ⟨none, none, 0, 0, by rw [hbe], by rw [hre], by rw [hgv], by rw [hba]; exact H19.out, by rw [hba]; exact ms_nil _ _, by rw [hra]; exact H20.out, by rw [hra]; exact ms_nil _ _, HK.out⟩
        obtain ⟨j, hj, ej, hnmj, e1, e2, e3, e4⟩ := mods_some HEe.out (nm := nm) (by rw [HIx.out]; exact hi) cg
        rw [HIx.out] at ej
        subst ej
        have hjn : j < n := by rw [← HEl.out]; exact hj
        have HEx := Lib.hid (And.intro hj (And.intro hnmj (And.intro e1 (And.intro e2 (And.intro e3 e4)))))
        have H1 : Hid (whenE (a.m[j]).by_ 9 = be) := Lib.hid (by rw [← HBe.out, e1])
        have H2 : Hid (replE a a.m[j] cg = re) := Lib.hid (by rw [← HRe.out, e2])
        have H3 : Hid (be = 0 → ba = putM a j ⟨(a.m[j]).n, (a.m[j]).q, false, true⟩) := Lib.hid (fun h => by rw [← HBa.out, HBe.out, h]; unfold resAr; rw [if_pos rfl]; exact e3)
        have H4 : Hid (re = 0 → ra = putM a j ⟨nm, cg, false, false⟩) := Lib.hid (fun h => by rw [← HRa.out, HRe.out, h]; unfold resAr; rw [if_pos rfl]; exact e4 (HRe.out.trans h))
        have H5 : Hid (be ≠ 0 → ba = nilA) := Lib.hid (fun h => by rw [← HBa.out, HBe.out]; unfold resAr; rw [if_neg h])
        have H6 : Hid (re ≠ 0 → ra = nilA) := Lib.hid (fun h => by rw [← HRa.out, HRe.out]; unfold resAr; rw [if_neg h])
        have hid : decide (0 ≤ (j : Int)) = true := by simp
        have hxj : a.m[j]? = some a.m[j] := List.getElem?_eq_getElem hj
        have HZ : Hid (∀ W, Below w.heap.size w W → ∃ bm om, A = some ⟨bm, om, none⟩ ∧ bm < w.heap.size ∧ W.cell? ⟨bm, om + j * 4 + 3, none⟩ = some (.bool (a.m[j]).by_)) := Lib.hid (fun W hW => by
          obtain ⟨_, hat⟩ := md_at (HMs.out.below hW)
          obtain ⟨bm, om, em, hbm, _, _, _, z3⟩ := hat j hj
          exact ⟨bm, om, em, hbm, z3⟩)
        clear hnmj e1 e2 e3 e4 hi HEx HBa HRa HBe HRe HIx
        generalize a.m[j] = x at *
        obtain ⟨xn, xq, xo, xb⟩ := x
        dsimp only at H1 H3 HZ
        have HXj := Lib.hid hxj
        clear hxj hj
        go_upto_region 16 with fail
        go_cut [16, 17] (fun s16 s17 wx => s16 = .int .i64 be ∧ s17 = .int .i64 re ∧ Below wb.heap.size wb wx)
        case first =>
          as_aux_lemma =>
            obtain ⟨bm, om, em, hbm, z3⟩ := HZ.out _ HL.out
            have hbw : bm < wb.heap.size := by have := HL.out.size; omega
            clear HZ H3 H4 H5 H6 H19 H20 HK HMs HXj
            have HR2 : Hid (firstE [whenE (!xb) 22, ckR cg 0 16384, whenE (!inB a.lo a.hi cg) 30] = re) := H2
            clear H2
            subst em
            rcases Int.lt_or_le cg a.lo with hc1 | hc1
            · have hcd : decide (cg < a.lo) = true := decide_eq_true hc1
              have hin : inB a.lo a.hi cg = false := by unfold inB; rw [decide_eq_false (by omega)]; rfl
              rw [hin] at HR2
              clear hin
              go_wp2_with fail
              (refine wp_region_calm [] [0, 1, 2, 3, 4, 5, 6, 7, 8, 9, 10, 11, 12, 13, 14, 15, 16, 17, 18, 19, 20, 21, 22, 23, 24, 25, 26, 27, 28, 29, 30, 31, 32] 4 (by kernel_rfl) rfl (by kernel_rfl) (by kernel_rfl) (by kernel_rfl) ?_; simp only [pickB, List.filterMap_cons, List.filterMap_nil, List.getElem?_toArray, List.getElem?_cons_zero, List.getElem?_cons_succ]; (repeat (first | ((first | (with_reducible refine quietL_plain rfl (fun K hK => ?_)) | (with_reducible refine quietL_want (by with_unfolding_all rfl) (fun K hK => ?_))); (apply Exists.intro; refine ⟨fun wx hx => ?_, ?_⟩; (· (have hcx := ifs_ex hx); simp [go_sem, *, ↓IntWalk.iteOmega] <;> (first | rfl | exact ⟨rfl, rfl⟩ | (first | (with_reducible exact calls_B (calls_below (rWhen_any _ _ _))) | (with_reducible exact calls_B (calls_below (rChg_any _ _)))))); (simp only [Act.put, List.setIfInBounds_toArray, List.set_cons_zero, List.set_cons_succ]; refine hK _ ?_; clear hK K))) | ((with_reducible refine quietL_skip (by with_unfolding_all rfl) ?_); simp only [Act.put, List.setIfInBounds_toArray, List.set_cons_zero, List.set_cons_succ]))); refine quietL_nil ?_)
              (refine anyB_one (i := 33) (by kernel_rfl) rfl rfl ?_; intro w4 hb4 K hK; obtain ⟨hc4, hf4⟩ := ifs_of hb4; have hs4 := hb4.size; (try simp at hs4); go_wp2; refine ⟨xs_, ?_⟩)
              (refine anyB_one (i := 34) (by kernel_rfl) rfl rfl ?_; intro w5 hb5 K hK; obtain ⟨hc5, hf5⟩ := ifs_of hb5; have hs5 := hb5.size; (try simp at hs5); go_wp2_with fail; refine (rFirst_any (w4.heap.size + 1) _ 3 3 [whenE (!xb) 22, ckR cg 0 16384, whenE true 30] _ ((by simpa using Reads.new (size := 1) w4 (([whenE (!xb) 22, ckR cg 0 16384, whenE true 30]).map (.int .i64)).toArray 3 3 rfl : Reads (w4.alloc (.cells (([whenE (!xb) 22, ckR cg 0 16384, whenE true 30]).map (.int .i64)).toArray 3)) (w4.heap.size + 1) 1 (some ⟨w4.heap.size, 0, none⟩) 3 (([whenE (!xb) 22, ckR cg 0 16384, whenE true 30]).map (.int .i64))).below (hb5.mono (by simp))) (by unfold maxLen; decide)).mono ?_; rintro e w5' ⟨rfl, rfl⟩; go_wp2; refine ⟨xs_, ?_⟩)
              (refine anyB_one (i := 35) (by kernel_rfl) rfl rfl ?_; intro w6 hb6 K hK; obtain ⟨hc6, hf6⟩ := ifs_of hb6; have hs6 := hb6.size; (try simp at hs6); go_wp2; refine ⟨xs_, ?_⟩)
              (refine anyB_one (i := 36) (by kernel_rfl) rfl rfl ?_; intro w7 hb7 K hK; obtain ⟨hc7, hf7⟩ := ifs_of hb7; have hs7 := hb7.size; (try simp at hs7); go_wp2; refine ⟨xs_, ?_⟩)
              (refine anyB_end (by kernel_rfl) ?_; intro w8 hb8; obtain ⟨hc8, hf8⟩ := ifs_of hb8; have hs8 := hb8.size; (try simp at hs8); simp only [Calm])
              go_wp2_with fail
              go_meet
              case rel => exact ⟨by rw [← H1.out], by rw [← HR2.out]; rfl, bl_⟩
            · have hcd : decide (cg < a.lo) = false := decide_eq_false (by omega)
              have hcn : ¬ cg < a.lo := by omega
              rcases Int.lt_or_le a.hi cg with hc2 | hc2
              · have hce : decide (a.hi < cg) = true := decide_eq_true hc2
                have hin : inB a.lo a.hi cg = false := by unfold inB; rw [decide_eq_false (show ¬ cg ≤ a.hi by omega), Bool.and_false]
                rw [hin] at HR2
                clear hin
                go_wp2_with fail
                (refine wp_region_calm [] [0, 1, 2, 3, 4, 5, 6, 7, 8, 9, 10, 11, 12, 13, 14, 15, 16, 17, 18, 19, 20, 21, 22, 23, 24, 25, 26, 27, 28, 29, 30, 31, 32] 4 (by kernel_rfl) rfl (by kernel_rfl) (by kernel_rfl) (by kernel_rfl) ?_; simp only [pickB, List.filterMap_cons, List.filterMap_nil, List.getElem?_toArray, List.getElem?_cons_zero, List.getElem?_cons_succ]; (repeat (first | ((first | (with_reducible refine quietL_plain rfl (fun K hK => ?_)) | (with_reducible refine quietL_want (by with_unfolding_all rfl) (fun K hK => ?_))); (apply Exists.intro; refine ⟨fun wx hx => ?_, ?_⟩; (· (have hcx := ifs_ex hx); simp [go_sem, *, ↓IntWalk.iteOmega] <;> (first | rfl | exact ⟨rfl, rfl⟩ | (first | (with_reducible exact calls_B (calls_below (rWhen_any _ _ _))) | (with_reducible exact calls_B (calls_below (rChg_any _ _)))))); (simp only [Act.put, List.setIfInBounds_toArray, List.set_cons_zero, List.set_cons_succ]; refine hK _ ?_; clear hK K))) | ((with_reducible refine quietL_skip (by with_unfolding_all rfl) ?_); simp only [Act.put, List.setIfInBounds_toArray, List.set_cons_zero, List.set_cons_succ]))); refine quietL_nil ?_)
                (refine anyB_one (i := 33) (by kernel_rfl) rfl rfl ?_; intro w4 hb4 K hK; obtain ⟨hc4, hf4⟩ := ifs_of hb4; have hs4 := hb4.size; (try simp at hs4); go_wp2; refine ⟨xs_, ?_⟩)
                (refine anyB_one (i := 34) (by kernel_rfl) rfl rfl ?_; intro w5 hb5 K hK; obtain ⟨hc5, hf5⟩ := ifs_of hb5; have hs5 := hb5.size; (try simp at hs5); go_wp2_with fail; refine (rFirst_any (w4.heap.size + 1) _ 3 3 [whenE (!xb) 22, ckR cg 0 16384, whenE true 30] _ ((by simpa using Reads.new (size := 1) w4 (([whenE (!xb) 22, ckR cg 0 16384, whenE true 30]).map (.int .i64)).toArray 3 3 rfl : Reads (w4.alloc (.cells (([whenE (!xb) 22, ckR cg 0 16384, whenE true 30]).map (.int .i64)).toArray 3)) (w4.heap.size + 1) 1 (some ⟨w4.heap.size, 0, none⟩) 3 (([whenE (!xb) 22, ckR cg 0 16384, whenE true 30]).map (.int .i64))).below (hb5.mono (by simp))) (by unfold maxLen; decide)).mono ?_; rintro e w5' ⟨rfl, rfl⟩; go_wp2; refine ⟨xs_, ?_⟩)
                (refine anyB_one (i := 35) (by kernel_rfl) rfl rfl ?_; intro w6 hb6 K hK; obtain ⟨hc6, hf6⟩ := ifs_of hb6; have hs6 := hb6.size; (try simp at hs6); go_wp2; refine ⟨xs_, ?_⟩)
                (refine anyB_one (i := 36) (by kernel_rfl) rfl rfl ?_; intro w7 hb7 K hK; obtain ⟨hc7, hf7⟩ := ifs_of hb7; have hs7 := hb7.size; (try simp at hs7); go_wp2; refine ⟨xs_, ?_⟩)
                (refine anyB_end (by kernel_rfl) ?_; intro w8 hb8; obtain ⟨hc8, hf8⟩ := ifs_of hb8; have hs8 := hb8.size; (try simp at hs8); simp only [Calm])
                go_wp2_with fail
                go_meet
                case rel => exact ⟨by rw [← H1.out], by rw [← HR2.out]; rfl, bl_⟩
              · have hce : decide (a.hi < cg) = false := decide_eq_false (by omega)
                have hcm : ¬ a.hi < cg := by omega
                have hin : inB a.lo a.hi cg = true := by unfold inB; rw [decide_eq_true hc1, decide_eq_true hc2]; rfl
                rw [hin] at HR2
                clear hin
                go_wp2_with fail
                (refine wp_region_calm [] [0, 1, 2, 3, 4, 5, 6, 7, 8, 9, 10, 11, 12, 13, 14, 15, 16, 17, 18, 19, 20, 21, 22, 23, 24, 25, 26, 27, 28, 29, 30, 31, 32] 4 (by kernel_rfl) rfl (by kernel_rfl) (by kernel_rfl) (by kernel_rfl) ?_; simp only [pickB, List.filterMap_cons, List.filterMap_nil, List.getElem?_toArray, List.getElem?_cons_zero, List.getElem?_cons_succ]; (repeat (first | ((first | (with_reducible refine quietL_plain rfl (fun K hK => ?_)) | (with_reducible refine quietL_want (by with_unfolding_all rfl) (fun K hK => ?_))); (apply Exists.intro; refine ⟨fun wx hx => ?_, ?_⟩; (· (have hcx := ifs_ex hx); simp [go_sem, *, ↓IntWalk.iteOmega] <;> (first | rfl | exact ⟨rfl, rfl⟩ | (first | (with_reducible exact calls_B (calls_below (rWhen_any _ _ _))) | (with_reducible exact calls_B (calls_below (rChg_any _ _)))))); (simp only [Act.put, List.setIfInBounds_toArray, List.set_cons_zero, List.set_cons_succ]; refine hK _ ?_; clear hK K))) | ((with_reducible refine quietL_skip (by with_unfolding_all rfl) ?_); simp only [Act.put, List.setIfInBounds_toArray, List.set_cons_zero, List.set_cons_succ]))); refine quietL_nil ?_)
                (refine anyB_one (i := 33) (by kernel_rfl) rfl rfl ?_; intro w4 hb4 K hK; obtain ⟨hc4, hf4⟩ := ifs_of hb4; have hs4 := hb4.size; (try simp at hs4); go_wp2; refine ⟨xs_, ?_⟩)
                (refine anyB_one (i := 34) (by kernel_rfl) rfl rfl ?_; intro w5 hb5 K hK; obtain ⟨hc5, hf5⟩ := ifs_of hb5; have hs5 := hb5.size; (try simp at hs5); go_wp2_with fail; refine (rFirst_any (w4.heap.size + 1) _ 3 3 [whenE (!xb) 22, ckR cg 0 16384, whenE false 30] _ ((by simpa using Reads.new (size := 1) w4 (([whenE (!xb) 22, ckR cg 0 16384, whenE false 30]).map (.int .i64)).toArray 3 3 rfl : Reads (w4.alloc (.cells (([whenE (!xb) 22, ckR cg 0 16384, whenE false 30]).map (.int .i64)).toArray 3)) (w4.heap.size + 1) 1 (some ⟨w4.heap.size, 0, none⟩) 3 (([whenE (!xb) 22, ckR cg 0 16384, whenE false 30]).map (.int .i64))).below (hb5.mono (by simp))) (by unfold maxLen; decide)).mono ?_; rintro e w5' ⟨rfl, rfl⟩; go_wp2; refine ⟨xs_, ?_⟩)
                (refine anyB_one (i := 35) (by kernel_rfl) rfl rfl ?_; intro w6 hb6 K hK; obtain ⟨hc6, hf6⟩ := ifs_of hb6; have hs6 := hb6.size; (try simp at hs6); go_wp2; refine ⟨xs_, ?_⟩)
                (refine anyB_one (i := 36) (by kernel_rfl) rfl rfl ?_; intro w7 hb7 K hK; obtain ⟨hc7, hf7⟩ := ifs_of hb7; have hs7 := hb7.size; (try simp at hs7); go_wp2; refine ⟨xs_, ?_⟩)
                (refine anyB_end (by kernel_rfl) ?_; intro w8 hb8; obtain ⟨hc8, hf8⟩ := ifs_of hb8; have hs8 := hb8.size; (try simp at hs8); simp only [Calm])
                go_wp2_with fail
                go_meet
                case rel => exact ⟨by rw [← H1.out], by rw [← HR2.out]; rfl, bl_⟩
        rename World => wc
        obtain ⟨rfl, rfl, hb⟩ := hcut
        clear H1 H2
        clear cHA lHA cHO lHO
        have HL' := Lib.hid (HL.out.trans (hb.mono HL.out.size)); clear HL; have HL := HL'; clear HL'
        have HA' := Lib.hid (HA.out.kept hb); clear HA; have HA := HA'; clear HA'
        have HO' := Lib.hid (HO.out.kept hb); clear HO; have HO := HO'; clear HO'
        have H19' := Lib.hid (H19.out.kept hb); clear H19; have H19 := H19'; clear H19'
        have H20' := Lib.hid (H20.out.kept hb); clear H20; have H20 := H20'; clear H20'
        have HK' := Lib.hid (HK.out.trans (hb.mono HK.out.size)); clear HK; have HK := HK'; clear HK'
        clear hb
        have cHA := HA.out.cell
        have lHA := HA.out.lt
        have cHO := HO.out.cell
        have lHO := HO.out.lt
        have hswc := HK.out.size
        go_upto_if 125 with fail
        go_cut [] (fun wx => ∃ (A1 : Option Addr) (c1 : Nat), Blk wx w18.heap.size 26 #[.slice A1 ba.m.length c1, .int .i64 ba.lo, .int .i64 ba.hi, .int .i64 ba.cur, .int .i64 ba.lim] ∧ MsAt wx wx.heap.size A1 ba.m.length ba.m ∧ Blk wx (w18.heap.size + 1) 26 #[.slice none 0 0, .int .i64 0, .int .i64 0, .int .i64 0, .int .i64 0] ∧ Below w18.heap.size w18 wx)
        case first =>
          as_aux_lemma =>
            clear H4 H6
            by_cases h0 : be = 0
            case neg =>
              have hne : (be == 0) = false := by simpa using h0
              go_wp2_with fail
              go_meet
              case rel => exact ⟨none, 0, by rw [H5.out h0]; exact H19.out, by rw [H5.out h0]; exact ms_nil _ _, H20.out, HK.out⟩
            case pos =>
              subst h0
              have hba := H3.out rfl
              clear H3 H5 HZ
              have HOwn := Lib.hid (rOwn_any w.heap.size A n c a wc (HMs.out.below HL.out) HL.out.size (by omega))
              have hl20 := H20.out.lt
              go_wp2_with fail
              refine HOwn.out.mono ?_
              rintro e we ⟨g, cap, rfl, hg, hb⟩
              have hgl := hg.lt.1
              obtain ⟨rest, hg⟩ := own_rest hg
              rw [HEl.out]
              clear cHA lHA cHO lHO HOwn
              have HL' := Lib.hid (HL.out.trans (hb.mono HL.out.size)); clear HL; have HL := HL'; clear HL'
              have HA' := Lib.hid (HA.out.kept hb); clear HA; have HA := HA'; clear HA'
              have HO' := Lib.hid (HO.out.kept hb); clear HO; have HO := HO'; clear HO'
              have H19' := Lib.hid (H19.out.kept hb); clear H19; have H19 := H19'; clear H19'
              have H20' := Lib.hid (H20.out.kept hb); clear H20; have H20 := H20'; clear H20'
              have HK' := Lib.hid (HK.out.trans (hb.mono HK.out.size)); clear HK; have HK := HK'; clear HK'
              have HRow := Lib.hid hg
              clear hg hb
              have hkg : w18.heap.size ≠ g := by omega
              have hkg2 : w18.heap.size + 1 ≠ g := by omega
              have c19 := H19.out.cell
              have f19 := H19.out.frozen
              have l19 := H19.out.lt
              go_upto_region 19 with fail
              refine wp_world ?_
              intro wf hwf
              have hbx : Blk wf w18.heap.size 26 #[.slice (some ⟨g, 0, none⟩) n cap, .int .i64 a.lo, .int .i64 a.hi, .int .i64 a.cur, .int .i64 a.lim] := by rw [hwf]; exact put5_blk H19.out
              have hby : Blk wf (w18.heap.size + 1) 26 #[.slice none 0 0, .int .i64 0, .int .i64 0, .int .i64 0, .int .i64 0] := by rw [hwf]; exact put5_far H20.out (by omega)
              have hrow : Blk wf g 74 (mds a.m ++ rest).toArray := by rw [hwf]; exact put5_far HRow.out (by omega)
              have hk : Below w18.heap.size w18 wf := by rw [hwf]; exact put5_low HK.out (Nat.le_refl _)
              have HBx0 := Lib.hid hbx
              have HBy0 := Lib.hid hby
              have HRw0 := Lib.hid hrow
              have HKx0 := Lib.hid hk
              have c19 := hbx.cell
              have l19 := hbx.lt
              clear hwf hbx hby hrow hk H19 H20 HRow HK f19 HA HO HL
              (refine wp_region_calm [g] [0, 1, 2, 3, 4, 5, 6, 7] 4 (by kernel_rfl) rfl (by kernel_rfl) (by kernel_rfl) (by kernel_rfl) ?_; simp only [pickB, List.filterMap_cons, List.filterMap_nil, List.getElem?_toArray, List.getElem?_cons_zero, List.getElem?_cons_succ]; (repeat (first | ((first | (with_reducible refine quietL_plain rfl (fun K hK => ?_)) | (with_reducible refine quietL_want (by with_unfolding_all rfl) (fun K hK => ?_))); (apply Exists.intro; refine ⟨fun wx hx => ?_, ?_⟩; (· (have hcx := ifs_ex hx); simp [go_sem, *, ↓IntWalk.iteOmega] <;> (first | rfl | exact ⟨rfl, rfl⟩ | fail)); (simp only [Act.put, List.setIfInBounds_toArray, List.set_cons_zero, List.set_cons_succ]; refine hK _ ?_; clear hK K))) | ((with_reducible refine quietL_skip (by with_unfolding_all rfl) ?_); simp only [Act.put, List.setIfInBounds_toArray, List.set_cons_zero, List.set_cons_succ]))); refine quietL_nil ?_)
              refine anyB_one (i := 8) (by kernel_rfl) rfl rfl ?_
              intro wg hbg K hK
              have hsg := hbg.size
              have hr := HRw0.out.kept hbg
              obtain ⟨_, _, y2, _⟩ := mdr_cells hr HXj.out
              dsimp only at y2
              have fG := hr.frozen
              have lG := hr.lt
              go_wp2
              refine ⟨Ex.set_in (by simp) (Ex.of_below hbg) _, ?_⟩
              have hr1 := hr.set_ (j * 4 + 2) (.bool false)
              rw [mdr_set (x' := ⟨xn, xq, false, xb⟩) HXj.out (by decide) rfl] at hr1
              have HR1 := Lib.hid hr1
              have hs1 := hr1.lt
              clear hr hr1 y2 fG lG
              (refine anyB_one (i := 9) (by kernel_rfl) rfl rfl ?_; intro wh hbh K hK; have hsh := hbh.size; (try simp at hsh); go_wp2; refine ⟨xs_, ?_⟩)
              (refine anyB_one (i := 10) (by kernel_rfl) rfl rfl ?_; intro wi hbi K hK; have hsi := hbi.size; (try simp at hsi); go_wp2; refine ⟨xs_, ?_⟩)
              refine anyB_one (i := 11) (by kernel_rfl) rfl rfl ?_
              intro wj hbj K hK
              have hsj := hbj.size
              have hr2 := ((HR1.out.kept hbh).kept hbi).kept hbj
              obtain ⟨_, _, _, y3⟩ := mdr_cells hr2 (set_at HXj.out)
              dsimp only at y3
              have fG := hr2.frozen
              have lG := hr2.lt
              go_wp2
              refine ⟨xs_, ?_⟩
              refine anyB_end (by kernel_rfl) ?_
              intro wz hbz
              simp only [Calm]
              have hr3 := hr2.set_ (j * 4 + 3) (.bool true)
              rw [mdr_set (x' := ⟨xn, xq, false, true⟩) (set_at HXj.out) (by decide) rfl, List.set_set] at hr3
              have HRw := Lib.hid (hr3.kept hbz)
              have hE : Ex [g] wf wz := xs_
              have HBx := Lib.hid (HBx0.out.exr hE (by simp; omega))
              have HBy := Lib.hid (HBy0.out.exr hE (by simp; omega))
              have HKx := Lib.hid (HKx0.out.trans (hE.lowB HKx0.out.size (by simp; omega)))
              clear hE hbg hbh hbi hbj hbz hr2 hr3 y3 fG lG HRw0 HBx0 HBy0 HKx0 c19 l19
              have hl3 : (a.m.set j ⟨xn, xq, false, true⟩).length = n := by rw [List.length_set]; exact HEl.out
              have HMz := Lib.hid (mdr_at HRw.out)
              rw [hl3] at HMz
              have hbl2 : ba.m.length = n := by rw [hba]; exact hl3
              have HB2 := Lib.hid hbl2
              have HB3 := Lib.hid hba
              clear hbl2 hba hl3
              go_wp2_with fail
              go_meet
              case rel => exact ⟨some ⟨g, 0, none⟩, cap, by rw [HB2.out, HB3.out]; exact HBx.out, by rw [HB2.out, HB3.out]; exact HMz.out, HBy.out, HKx.out⟩
        rename World => wd
        obtain ⟨A1, c1, h1, h2, h3, hb⟩ := hcut
        clear HA HO HL H19 H20 HK cHA lHA cHO lHO
        have HA := Lib.hid (HAk.out.kept hb)
        have HO := Lib.hid (HOk.out.kept hb)
        have HL := Lib.hid (HLk.out.trans (hb.mono HLk.out.size))
        have H19 := Lib.hid h1
        have HMa := Lib.hid h2
        have H20 := Lib.hid h3
        have HK := Lib.hid hb
        clear h1 h2 h3 hb HAk HOk HLk H3 H5
        have hswd := HK.out.size
        have cHA := HA.out.cell
        have lHA := HA.out.lt
        have cHO := HO.out.cell
        have lHO := HO.out.lt
        by_cases h0 : re = 0
        case neg =>
          as_aux_lemma =>
            have hne : (re == 0) = false := by simpa using h0
            go_wp2_with fail
            go_meet
            case rel => exact ⟨A1, none, c1, 0, rfl, rfl, rfl, H19.out, HMa.out, by rw [H6.out h0]; exact H20.out, by rw [H6.out h0]; exact ms_nil _ _, HK.out⟩
        case pos =>
          as_aux_lemma =>
            subst h0
            have HB3 := Lib.hid (H4.out rfl)
            clear H4 H6 HZ
            have HOwn := Lib.hid (rOwn_any w.heap.size A n c a wd (HMs.out.below HL.out) HL.out.size (by omega))
            have hl20 := H20.out.lt
            go_wp2_with fail
            refine HOwn.out.mono ?_
            rintro e we ⟨g, cap, rfl, hg, hb⟩
            have hgl := hg.lt.1
            obtain ⟨rest, hg⟩ := own_rest hg
            rw [HEl.out]
            clear cHA lHA cHO lHO HOwn
            have HL' := Lib.hid (HL.out.trans (hb.mono HL.out.size)); clear HL; have HL := HL'; clear HL'
            have HA' := Lib.hid (HA.out.kept hb); clear HA; have HA := HA'; clear HA'
            have HO' := Lib.hid (HO.out.kept hb); clear HO; have HO := HO'; clear HO'
            have H19' := Lib.hid (H19.out.kept hb); clear H19; have H19 := H19'; clear H19'
            have H20' := Lib.hid (H20.out.kept hb); clear H20; have H20 := H20'; clear H20'
            have HMb := Lib.hid (HMa.out.below hb)
            have HK' := Lib.hid (HK.out.trans (hb.mono HK.out.size)); clear HK; have HK := HK'; clear HK'
            have HRow := Lib.hid hg
            have HSd := Lib.hid hb.size
            clear hg hb
            as_aux_lemma =>
              have hkg : w18.heap.size ≠ g := by omega
              have hkg2 : w18.heap.size + 1 ≠ g := by omega
              have c20 := H20.out.cell
              have f20 := H20.out.frozen
              have l20 := H20.out.lt
              go_upto_region 22 with fail
              refine wp_world ?_
              intro wf hwf
              have hbx : Blk wf (w18.heap.size + 1) 26 #[.slice (some ⟨g, 0, none⟩) n cap, .int .i64 a.lo, .int .i64 a.hi, .int .i64 a.cur, .int .i64 a.lim] := by rw [hwf]; exact put5_blk H20.out
              have hby : Blk wf w18.heap.size 26 #[.slice A1 ba.m.length c1, .int .i64 ba.lo, .int .i64 ba.hi, .int .i64 ba.cur, .int .i64 ba.lim] := by rw [hwf]; exact put5_far H19.out (by omega)
              have hbo : Blk wf (w.heap.size + 1) 93 #[.int .i64 cg, .int .i64 cm] := by rw [hwf]; exact put5_far HO.out (by omega)
              have hrow : Blk wf g 74 (mds a.m ++ rest).toArray := by rw [hwf]; exact put5_far HRow.out (by omega)
              have hk : Below w18.heap.size w18 wf := by rw [hwf]; exact put5_low HK.out (by omega)
              have hmb : MsAt wf wd.heap.size A1 ba.m.length ba.m := by rw [hwf]; exact ms_put5B HMb.out H20.out
              as_aux_lemma =>
                have k0 := hrow.set_ (j * 4 + 0) (.string nm)
                rw [mdr_set (x' := ⟨nm, xq, xo, xb⟩) HXj.out (by decide) rfl] at k0
                have k1 := k0.set_ (j * 4 + 1) (.int .i64 cg)
                rw [mdr_set (x' := ⟨nm, cg, xo, xb⟩) (set_at HXj.out) (by decide) rfl, List.set_set] at k1
                have k2 := k1.set_ (j * 4 + 2) (.bool false)
                rw [mdr_set (x' := ⟨nm, cg, false, xb⟩) (set_at HXj.out) (by decide) rfl, List.set_set] at k2
                have k3 := k2.set_ (j * 4 + 3) (.bool false)
                rw [mdr_set (x' := ⟨nm, cg, false, false⟩) (set_at HXj.out) (by decide) rfl, List.set_set] at k3
                as_aux_lemma =>
                  have HR3 := Lib.hid k3
                  as_aux_lemma =>
                    have HX3 := Lib.hid ((((hbx.far (p := ⟨g, j * 4 + 0, none⟩) hkg2 (.string nm)).far (p := ⟨g, j * 4 + 1, none⟩) hkg2 (.int .i64 cg)).far (p := ⟨g, j * 4 + 2, none⟩) hkg2 (.bool false)).far (p := ⟨g, j * 4 + 3, none⟩) hkg2 (.bool false))
                    as_aux_lemma =>
                      have HY3 := Lib.hid ((((hby.far (p := ⟨g, j * 4 + 0, none⟩) hkg (.string nm)).far (p := ⟨g, j * 4 + 1, none⟩) hkg (.int .i64 cg)).far (p := ⟨g, j * 4 + 2, none⟩) hkg (.bool false)).far (p := ⟨g, j * 4 + 3, none⟩) hkg (.bool false))
                      as_aux_lemma =>
                        have hkle : w18.heap.size ≤ g := by omega
                        have HK3 := Lib.hid ((((hk.setCell (p := ⟨g, j * 4 + 0, none⟩) hkle (.string nm)).setCell (p := ⟨g, j * 4 + 1, none⟩) hkle (.int .i64 cg)).setCell (p := ⟨g, j * 4 + 2, none⟩) hkle (.bool false)).setCell (p := ⟨g, j * 4 + 3, none⟩) hkle (.bool false))
                        as_aux_lemma =>
                          have hneA : ∀ b' o s', A1 = some ⟨b', o, s'⟩ → 0 < ba.m.length → b' ≠ g := fun b' o s' e h0 => by
                            obtain ⟨b2, o2, e2, hb2, _⟩ := hmb.2 h0
                            rw [e2] at e
                            cases e
                            omega
                          have HM3 := Lib.hid (ms_set (ms_set (ms_set (ms_set hmb hneA (j * 4 + 0) (.string nm)) hneA (j * 4 + 1) (.int .i64 cg)) hneA (j * 4 + 2) (.bool false)) hneA (j * 4 + 3) (.bool false))
                          have e5 : ∀ (V : World) (p : Addr) (u : Value), (V.setCell p u).heap.size = V.heap.size := fun V p u => by simp [World.setCell]
                          as_aux_lemma =>
                            have hsd : wd.heap.size ≤ wf.heap.size := by rw [hwf, e5, e5, e5, e5, e5]; exact HSd.out
                            obtain ⟨y0, y1, y2, y3⟩ := mdr_cells hrow HXj.out
                            dsimp only at y0 y1 y2 y3
                            have fG := hrow.frozen
                            have lG := hrow.lt
                            have c20 := hbx.cell
                            have l20 := hbx.lt
                            have cHO := hbo.cell
                            have lHO := hbo.lt
                            as_aux_lemma =>
                              have hl3 : (a.m.set j ⟨nm, cg, false, false⟩).length = n := by rw [List.length_set]; exact HEl.out
                              have HMz := Lib.hid (mdr_at HR3.out)
                              rw [hl3] at HMz
                              have HB2 : Hid (ra.m.length = n) := Lib.hid (by rw [HB3.out]; exact hl3)
                              clear hwf hbx hby hbo hrow hk hmb k0 k1 k2 k3 hl3 H19 H20 HRow HK HMa HMb HA HO HL f20
                              as_aux_lemma =>
                                go_wp2_with fail
                                go_meet
                                case rel => exact ⟨A1, some ⟨g, 0, none⟩, c1, cap, rfl, rfl, rfl, HY3.out, HM3.out.more (by rw [e5, e5, e5, e5]; exact hsd), by rw [HB2.out, HB3.out]; exact HX3.out, by rw [HB2.out, HB3.out]; exact HMz.out, HK3.out⟩
    rename World => w19
    obtain ⟨A1, A2, c1, c2, rfl, rfl, rfl, h19, hm1, h20, hm2, hb⟩ := hcut
    have HZ1 := Lib.hid h19
    have HZ2 := Lib.hid h20
    have HM1 := Lib.hid hm1
    have HM2 := Lib.hid hm2
    clear h19 hm1 h20 hm2 H19 H20 HbW hsW
    clear cHA lHA cHO lHO cHN lHN cHR lHR
    have hs19 := hb.size
    have HL' := Lib.hid (HL.out.trans (hb.mono HL.out.size)); clear HL; have HL := HL'; clear HL'
    have HA' := Lib.hid (HA.out.kept hb); clear HA; have HA := HA'; clear HA'
    have HO' := Lib.hid (HO.out.kept hb); clear HO; have HO := HO'; clear HO'
    have HN' := Lib.hid (HN.out.kept hb); clear HN; have HN := HN'; clear HN'
    have HX' := Lib.hid (ms_kept HX.out hb); clear HX; have HX := HX'; clear HX'
    have HR' := Lib.hid (HR.out.kept hb); clear HR; have HR := HR'; clear HR'
    have HY' := Lib.hid (ms_kept HY.out hb); clear HY; have HY := HY'; clear HY'
    clear hb
    have cHA := HA.out.cell
    have lHA := HA.out.lt
    have cHO := HO.out.cell
    have lHO := HO.out.lt
    have cHN := HN.out.cell
    have lHN := HN.out.lt
    have cHR := HR.out.cell
    have lHR := HR.out.lt
    obtain ⟨b19, hb19⟩ : ∃ b, w18.heap.size = b := ⟨_, rfl⟩
    rw [hb19] at HZ1 HZ2 ⊢
    clear hb19
    have cHZ1 := HZ1.out.cell
    have lHZ1 := HZ1.out.lt
    have cHZ2 := HZ2.out.cell
    have lHZ2 := HZ2.out.lt
    go_upto_if 151 with fail
    go_cut [18, 21] (fun s18 s21 wx => ∃ rv : Int, s18 = .int .i64 se ∧ s21 = .int .i64 rv ∧ (se ≠ 0 → sv = 0) ∧ (se = 0 → rv = sv) ∧ Below w19.heap.size w19 wx)
    case first =>
      as_aux_lemma =>
        clear cHN lHN cHR lHR cHZ1 lHZ1 cHZ2 lHZ2 HN HX HR HY HXc HYc HZ1 HZ2 HM1 HM2
        by_cases h0 : t3 = 0
        case neg =>
          have hne : (t3 == 0) = false := by simpa using h0
          have hse : resE a cm = t3 := by unfold resE; rw [HEe.out, HT3.out, or0_no h0]
          have hsv : resV a cm = 0 := by unfold resV; rw [hse, if_neg h0]
          have HX : Hid (t3 = se ∧ sv = 0) := Lib.hid ⟨by rw [← HSe.out, hse], by rw [← HSv.out, hsv]⟩
          clear hse hsv
          go_wp2_with fail
          go_meet
          case rel => exact ⟨0, by rw [HX.out.1], rfl, fun _ => HX.out.2, fun h => absurd (HX.out.1.trans h) h0, Below.refl _ _⟩
        case pos =>
        subst h0
        have h1 := HT3.out
        rw [firstE_cons, firstE_cons] at h1
        obtain ⟨h1, h2⟩ := or0_zero h1
        have hcm := ckR_zero (or0_zero h2).1
        have hse := res_ok (HEe.out.trans h1) cm
        rw [(or0_zero h2).1, or0_yes] at hse
        have hus := idxs_len usB a.m 0
        rw [HEl.out] at hus
        have HU := Lib.hid (fun W (hW : Below w.heap.size w W) => rUsable_any w.heap.size A n c a W (HMs.out.below hW) hW.size (by omega))
        have hUS : usL a = idxs usB 0 a.m := rfl
        rw [← hUS] at hus HU
        have hsv : resV a cm = if resE a cm = 0 then ((usL a).length : Int) - cm else 0 := rfl
        rw [HSe.out] at hse hsv
        rw [HSv.out] at hsv
        have HE1 := Lib.hid hse
        have HV1 := Lib.hid hsv
        generalize usL a = us at *
        have hw1 : IntKind.i64.wrap ((us.length : Int) - cm) = (us.length : Int) - cm := by rw [IntKind.wrap_i64]; omega
        clear h1 h2 hse hsv hUS
        go_wp2_with fail
        (refine wp_region_calm [] [0, 3, 4] 4 (by kernel_rfl) rfl (by kernel_rfl) (by kernel_rfl) (by kernel_rfl) ?_; simp only [pickB, List.filterMap_cons, List.filterMap_nil, List.getElem?_toArray, List.getElem?_cons_zero, List.getElem?_cons_succ]; (repeat (first | ((first | (with_reducible refine quietL_plain rfl (fun K hK => ?_)) | (with_reducible refine quietL_want (by with_unfolding_all rfl) (fun K hK => ?_))); (apply Exists.intro; refine ⟨fun wx hx => ?_, ?_⟩; (· (have hcx := ifs_ex hx); simp [go_sem, *, ↓IntWalk.iteOmega] <;> (first | rfl | exact ⟨rfl, rfl⟩ | fail)); (simp only [Act.put, List.setIfInBounds_toArray, List.set_cons_zero, List.set_cons_succ]; refine hK _ ?_; clear hK K))) | ((with_reducible refine quietL_skip (by with_unfolding_all rfl) ?_); simp only [Act.put, List.setIfInBounds_toArray, List.set_cons_zero, List.set_cons_succ]))); refine quietL_nil ?_)
        (refine anyB_one (i := 1) (by kernel_rfl) rfl rfl ?_; intro w91 hb91 K hK; have hs91 := hb91.size; (try simp at hs91); go_wp2_with fail)
        refine (HU.out _ (HL.out.trans (hb91.mono HL.out.size))).mono ?_
        rintro e w92 ⟨v, rfl, hr, hb92⟩
        have hs92 := hb92.size
        obtain ⟨A3, c3, rfl, _, _, _⟩ := own_form hr
        clear hr
        (go_wp2; refine ⟨xs_, ?_⟩)
        (refine anyB_quiet_at (by kernel_rfl) calm_panic xs_ 1 [2, 5] _ _ (by kernel_rfl) (by decide +kernel) ?_; simp only [pickB, List.filterMap_cons, List.filterMap_nil, List.getElem?_toArray, List.getElem?_cons_zero, List.getElem?_cons_succ]; (repeat (first | ((first | (with_reducible refine quietL_plain rfl (fun K hK => ?_)) | (with_reducible refine quietL_want (by with_unfolding_all rfl) (fun K hK => ?_))); (apply Exists.intro; refine ⟨fun wx hx => ?_, ?_⟩; (· (have hcx := ifs_ex hx); simp [go_sem, *, ↓IntWalk.iteOmega] <;> (first | rfl | exact ⟨rfl, rfl⟩ | fail)); (simp only [Act.put, List.setIfInBounds_toArray, List.set_cons_zero, List.set_cons_succ]; refine hK _ ?_; clear hK K))) | ((with_reducible refine quietL_skip (by with_unfolding_all rfl) ?_); simp only [Act.put, List.setIfInBounds_toArray, List.set_cons_zero, List.set_cons_succ]))); refine quietL_nil ?_)
        (refine anyB_one (i := 6) (by kernel_rfl) rfl rfl ?_; intro w93 hb93 K hK; have hs93 := hb93.size; (try simp at hs93); go_wp2; refine ⟨xs_, ?_⟩)
        (refine anyB_end (by kernel_rfl) ?_; intro w94 hb94; have hs94 := hb94.size; (try simp at hs94); simp only [Calm])
        have HB := Lib.hid (hb91.trans ((hb92.trans ((hb93.trans (hb94.mono hs93)).mono hs92)).mono hs91))
        clear hb91 hb92 hb93 hb94 cHA lHA cHO lHO
        go_wp2_with fail
        refine (rWhen_any _ _ _).mono ?_
        rintro e w95 ⟨rfl, rfl⟩
        go_wp2_with fail
        go_meet
        case rel => exact ⟨(us.length : Int) - cm, by rw [HE1.out], rfl, fun h => by rw [HV1.out, if_neg h], fun h => by rw [HV1.out, if_pos h], HB.out⟩
    rename World => w20
    obtain ⟨rv, rfl, rfl, hr1, hr2, hb⟩ := hcut
    clear cHA lHA cHO lHO cHN lHN cHR lHR cHZ1 lHZ1 cHZ2 lHZ2
    have hs20 := hb.size
    have HL' := Lib.hid (HL.out.trans (hb.mono HL.out.size)); clear HL; have HL := HL'; clear HL'
    have HA' := Lib.hid (HA.out.kept hb); clear HA; have HA := HA'; clear HA'
    have HO' := Lib.hid (HO.out.kept hb); clear HO; have HO := HO'; clear HO'
    have HN' := Lib.hid (HN.out.kept hb); clear HN; have HN := HN'; clear HN'
    have HX' := Lib.hid (ms_kept HX.out hb); clear HX; have HX := HX'; clear HX'
    have HR' := Lib.hid (HR.out.kept hb); clear HR; have HR := HR'; clear HR'
    have HY' := Lib.hid (ms_kept HY.out hb); clear HY; have HY := HY'; clear HY'
    have HZ1' := Lib.hid (HZ1.out.kept hb); clear HZ1; have HZ1 := HZ1'; clear HZ1'
    have HZ2' := Lib.hid (HZ2.out.kept hb); clear HZ2; have HZ2 := HZ2'; clear HZ2'
    have HM1' := Lib.hid (ms_kept HM1.out hb); clear HM1; have HM1 := HM1'; clear HM1'
    have HM2' := Lib.hid (ms_kept HM2.out hb); clear HM2; have HM2 := HM2'; clear HM2'
    clear hb
    have cHA := HA.out.cell
    have lHA := HA.out.lt
    have cHO := HO.out.cell
    have lHO := HO.out.lt
    have cHN := HN.out.cell
    have lHN := HN.out.lt
    have cHR := HR.out.cell
    have lHR := HR.out.lt
    have cHZ1 := HZ1.out.cell
    have lHZ1 := HZ1.out.lt
    have cHZ2 := HZ2.out.cell
    have lHZ2 := HZ2.out.lt
    have HTb := Lib.hid (fun W A c (hm : MsAt W W.heap.size A ba.m.length ba.m) => told_r W.heap.size A ba.m.length c ba W hm (Nat.le_refl _) hbl)
    have HTr := Lib.hid (fun W A c (hm : MsAt W W.heap.size A ra.m.length ra.m) => told_r W.heap.size A ra.m.length c ra W hm (Nat.le_refl _) hrl)
    have HSb := Lib.hid (fun W A1 A2 c1 c2 (h1 : MsAt W W.heap.size A1 ba.m.length ba.m) (h2 : MsAt W W.heap.size A2 ba.m.length ba.m) => Same_self W.heap.size W.heap.size A1 A2 ba.m.length c1 c2 ba W h1 h2 (Nat.le_refl _) (Nat.le_refl _) hbl)
    have HSr := Lib.hid (fun W A1 A2 c1 c2 (h1 : MsAt W W.heap.size A1 ra.m.length ra.m) (h2 : MsAt W W.heap.size A2 ra.m.length ra.m) => Same_self W.heap.size W.heap.size A1 A2 ra.m.length c1 c2 ra W h1 h2 (Nat.le_refl _) (Nat.le_refl _) hrl)
    have HN1 := Lib.hid (fun W => number_any sv se rv W hr1 hr2)
    have HN2 := Lib.hid (fun W => number_any gv ee gv W hg0 (fun _ => rfl))
    clear hr1 hr2 hg0
    go_wp2_with fail
    (refine wp_region_calm [] [0, 2] 33 (by kernel_rfl) rfl (by kernel_rfl) (by kernel_rfl) (by kernel_rfl) ?_; simp only [pickB, List.filterMap_cons, List.filterMap_nil, List.getElem?_toArray, List.getElem?_cons_zero, List.getElem?_cons_succ]; (repeat (first | ((first | (with_reducible refine quietL_plain rfl (fun K hK => ?_)) | (with_reducible refine quietL_want (by with_unfolding_all rfl) (fun K hK => ?_))); (apply Exists.intro; refine ⟨fun wx hx => ?_, ?_⟩; (· (have hcx := ifs_ex hx); simp [go_sem, *, ↓IntWalk.iteOmega] <;> (first | rfl | exact ⟨rfl, rfl⟩ | fail)); (simp only [Act.put, List.setIfInBounds_toArray, List.set_cons_zero, List.set_cons_succ]; refine hK _ ?_; clear hK K))) | ((with_reducible refine quietL_skip (by with_unfolding_all rfl) ?_); simp only [Act.put, List.setIfInBounds_toArray, List.set_cons_zero, List.set_cons_succ]))); refine quietL_nil ?_)
    (refine anyB_one (i := 1) (by kernel_rfl) rfl rfl ?_; intro w21 hb21 K hK; have hs21 := hb21.size; (try simp at hs21); go_wp2_with fail)
    refine (HTb.out _ _ _ (ms_kept HX.out hb21)).mono ?_
    rintro e w22 ⟨At1, ct1, rfl, hm, _, hb22⟩
    have hs22 := hb22.size
    have HM3 := Lib.hid hm
    clear hm
    (go_wp2; refine ⟨xs_, ?_⟩)
    (refine anyB_one (i := 3) (by kernel_rfl) rfl rfl ?_; intro w23 hb23 K hK; have hs23 := hb23.size; (try simp at hs23); go_wp2_with fail)
    refine (HSb.out _ _ _ _ _ (ms_kept HM3.out hb23) (ms_kept (ms_kept (ms_kept HM1.out hb21) hb22) hb23)).mono ?_
    rintro e w24 ⟨rfl, hb24⟩
    have hs24 := hb24.size
    (go_wp2; refine ⟨xs_, ?_⟩)
    (refine anyB_quiet_at (by kernel_rfl) calm_panic xs_ 23 [4, 5, 6, 7, 8, 9, 10, 12] _ _ (by kernel_rfl) (by decide +kernel) ?_; simp only [pickB, List.filterMap_cons, List.filterMap_nil, List.getElem?_toArray, List.getElem?_cons_zero, List.getElem?_cons_succ]; (repeat (first | ((first | (with_reducible refine quietL_plain rfl (fun K hK => ?_)) | (with_reducible refine quietL_want (by with_unfolding_all rfl) (fun K hK => ?_))); (apply Exists.intro; refine ⟨fun wx hx => ?_, ?_⟩; (· (have hcx := ifs_ex hx); simp [go_sem, *, ↓IntWalk.iteOmega] <;> (first | rfl | exact ⟨rfl, rfl⟩ | fail)); (simp only [Act.put, List.setIfInBounds_toArray, List.set_cons_zero, List.set_cons_succ]; refine hK _ ?_; clear hK K))) | ((with_reducible refine quietL_skip (by with_unfolding_all rfl) ?_); simp only [Act.put, List.setIfInBounds_toArray, List.set_cons_zero, List.set_cons_succ]))); refine quietL_nil ?_)
    (refine anyB_one_want (i := 11) (by kernel_rfl) rfl (by kernel_rfl) ?_; intro w25 hb25 K hK; have hs25 := hb25.size; (try simp at hs25); go_wp2_with fail)
    refine (HTr.out _ _ _ (ms_kept (ms_kept (ms_kept (ms_kept (ms_kept HY.out hb21) hb22) hb23) hb24) hb25)).mono ?_
    rintro e w26 ⟨At2, ct2, rfl, hm, _, hb26⟩
    have hs26 := hb26.size
    have HM4 := Lib.hid hm
    clear hm
    (go_wp2; refine ⟨xs_, ?_⟩)
    (refine anyB_one_want (i := 13) (by kernel_rfl) rfl (by kernel_rfl) ?_; intro w27 hb27 K hK; have hs27 := hb27.size; (try simp at hs27); go_wp2_with fail)
    refine (HSr.out _ _ _ _ _ (ms_kept HM4.out hb27) (ms_kept (ms_kept (ms_kept (ms_kept (ms_kept (ms_kept (ms_kept HM2.out hb21) hb22) hb23) hb24) hb25) hb26) hb27)).mono ?_
    rintro e w28 ⟨rfl, hb28⟩
    have hs28 := hb28.size
    (go_wp2; refine ⟨xs_, ?_⟩)
    (refine anyB_quiet_at (by kernel_rfl) calm_panic xs_ 1 [14, 15, 16, 17, 18, 19, 20, 21, 22, 23, 24, 25, 26, 27, 28, 29, 30, 31, 32, 33] _ _ (by kernel_rfl) (by decide +kernel) ?_; simp only [pickB, List.filterMap_cons, List.filterMap_nil, List.getElem?_toArray, List.getElem?_cons_zero, List.getElem?_cons_succ]; (repeat (first | ((first | (with_reducible refine quietL_plain rfl (fun K hK => ?_)) | (with_reducible refine quietL_want (by with_unfolding_all rfl) (fun K hK => ?_))); (apply Exists.intro; refine ⟨fun wx hx => ?_, ?_⟩; (· (have hcx := ifs_ex hx); simp [go_sem, *, ↓IntWalk.iteOmega] <;> (first | rfl | exact ⟨rfl, rfl⟩ | (first | (with_reducible exact calls_B (calls_below (HN1.out _))) | (with_reducible exact calls_B (calls_below (HN2.out _)))))); (simp only [Act.put, List.setIfInBounds_toArray, List.set_cons_zero, List.set_cons_succ]; refine hK _ ?_; clear hK K))) | ((with_reducible refine quietL_skip (by with_unfolding_all rfl) ?_); simp only [Act.put, List.setIfInBounds_toArray, List.set_cons_zero, List.set_cons_succ]))); refine quietL_nil ?_)
    (refine anyB_one (i := 34) (by kernel_rfl) rfl rfl ?_; intro w29 hb29 K hK; have hs29 := hb29.size; (try simp at hs29); go_wp2; refine ⟨xs_, ?_⟩)
    (refine anyB_end (by kernel_rfl) ?_; intro w30 hb30; have hs30 := hb30.size; (try simp at hs30); simp only [Calm])
    have hb := hb21.trans ((hb22.trans ((hb23.trans ((hb24.trans ((hb25.trans ((hb26.trans ((hb27.trans ((hb28.trans ((hb29.trans ((hb30).mono hs29)).mono hs28)).mono hs27)).mono hs26)).mono hs25)).mono hs24)).mono hs23)).mono hs22)).mono hs21)
    have HLz := Lib.hid (HL.out.trans (hb.mono HL.out.size))
    clear hb hb21 hb22 hb23 hb24 hb25 hb26 hb27 hb28 hb29 hb30 cHA lHA cHO lHO cHN lHN cHR lHR cHZ1 lHZ1 cHZ2 lHZ2
    go_wp2_with fail
    go_ret
    exact ⟨by first | rfl | (simp; done), HLz.out⟩
end Go.Proofs.YtfpjcnkfoehhmaaGreatDoor
