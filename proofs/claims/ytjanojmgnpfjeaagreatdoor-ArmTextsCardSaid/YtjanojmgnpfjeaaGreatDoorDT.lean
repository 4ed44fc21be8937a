/- The law ArmTexts. -/
import Derived.Test.YtjanojmgnpfjeaaGreatDoorST
import Derived.Test.YtjanojmgnpfjeaaGreatDoorDW
import Derived.Test.YtjanojmgnpfjeaaGreatDoorQr
import Derived.Deep.DeepCutAuto
import Derived.Deep.CutBlock
namespace Go.Proofs.YtjanojmgnpfjeaaGreatDoor
open Go Go.RowKit Go.Sort Go.Shelf
set_option linter.unusedSimpArgs false
set_option linter.unusedVariables false
attribute [local go_sem] cell_if frozen_if grow_cell
set_option maxRecDepth 1000000 in
set_option maxHeartbeats 16000000 in
theorem texts_any (A : Option Addr) (n c : Nat) (a : Ar) (s : ByteArray) (w : World) (hM : MsAt w w.heap.size A n a.m) (hn : n ≤ maxLen) (hnm : ∀ x ∈ a.m, x.n.size ≤ maxLen) (hsz : s.size ≤ maxLen) (hT : TabT w) :
    Calls Tryz.prog 4 #[.agg #[.slice A n c, .int .i64 a.lo, .int .i64 a.hi, .int .i64 a.cur, .int .i64 a.lim], .string s] w fun e w' => e = .returned (.bool true) ∧ Below w.heap.size w w' := by
  have hl := (md_at hM).1
  have hmx : maxLen = 9223372036854775807 := rfl
  rw [hmx] at hn hsz
  have HT := Lib.hid hT
  have HAw := Lib.hid (fun W (hW : Below w.heap.size w W) => awake_ok w W hT hW)
  have HSh := Lib.hid (fun W (hW : Below w.heap.size w W) => Short_any w.heap.size A n c a W (hM.below hW) hW.size (by unfold maxLen; omega))
  clear hmx hT
  cases hs : shortA a with
  | false =>
    rw [hs] at HSh
    clear hM hnm hl hs
    as_aux_lemma =>
      go_enter Tryz.func4, Tryz.ntmps4
      go_wp2_with fail
      refine (HAw.out _ bl_).mono ?_
      rintro e w1 ⟨rfl, hb⟩
      have HA : Hid (Blk w1 (w.heap.size) 26 #[.slice A n c, .int .i64 a.lo, .int .i64 a.hi, .int .i64 a.cur, .int .i64 a.lim]) := Lib.hid bk_
      have HL : Hid (Below w.heap.size w w1) := Lib.hid bl_
      have hs1 := HL.out.size
      clear hb
      have cHA := HA.out.cell
      have lHA := HA.out.lt
      go_wp2_with fail
      refine (HSh.out _ HL.out).mono ?_
      rintro e w2 ⟨rfl, hb⟩
      clear cHA lHA
      have hs2 := hb.size
      have HL' := Lib.hid (HL.out.trans (hb.mono HL.out.size)); clear HL; have HL := HL'; clear HL'
      have HA' := Lib.hid (HA.out.kept hb); clear HA; have HA := HA'; clear HA'
      clear hb
      have cHA := HA.out.cell
      have lHA := HA.out.lt
      go_wp2_with fail
      refine (HAw.out _ HL.out).mono ?_
      rintro e w3 ⟨rfl, hb⟩
      clear cHA lHA
      have hs3 := hb.size
      have HL' := Lib.hid (HL.out.trans (hb.mono HL.out.size)); clear HL; have HL := HL'; clear HL'
      have HA' := Lib.hid (HA.out.kept hb); clear HA; have HA := HA'; clear HA'
      clear hb
      have cHA := HA.out.cell
      have lHA := HA.out.lt
      go_wp2_with fail
      go_ret
      exact ⟨rfl, HL.out⟩
  | true =>
    rw [hs] at HSh
    by_cases hok : s.size ≤ 300 ∨ s.size = 4097
    case neg =>
      as_aux_lemma =>
        have hd : (300 : Int) < (s.size : Int) := by omega
        have hd2 : decide ((300 : Int) < (s.size : Int)) = true := decide_eq_true hd
        have hd3 : ¬ (s.size : Int) = 4097 := by omega
        have hd4 : ((s.size : Int) == 4097) = false := by simpa using hd3
        have hd5 : ((s.size : Int) != 4097) = true := by simpa using hd3
        clear hM hnm hl hs hok
        go_enter Tryz.func4, Tryz.ntmps4
        go_wp2_with fail
        refine (HAw.out _ bl_).mono ?_
        rintro e w1 ⟨rfl, hb⟩
        have HA : Hid (Blk w1 (w.heap.size) 26 #[.slice A n c, .int .i64 a.lo, .int .i64 a.hi, .int .i64 a.cur, .int .i64 a.lim]) := Lib.hid bk_
        have HL : Hid (Below w.heap.size w w1) := Lib.hid bl_
        have hs1 := HL.out.size
        clear hb
        have cHA := HA.out.cell
        have lHA := HA.out.lt
        go_wp2_with fail
        refine (HSh.out _ HL.out).mono ?_
        rintro e w2 ⟨rfl, hb⟩
        clear cHA lHA
        have hs2 := hb.size
        have HL' := Lib.hid (HL.out.trans (hb.mono HL.out.size)); clear HL; have HL := HL'; clear HL'
        have HA' := Lib.hid (HA.out.kept hb); clear HA; have HA := HA'; clear HA'
        clear hb
        have cHA := HA.out.cell
        have lHA := HA.out.lt
        go_wp2_with fail
        refine (HAw.out _ HL.out).mono ?_
        rintro e w3 ⟨rfl, hb⟩
        clear cHA lHA
        have hs3 := hb.size
        have HL' := Lib.hid (HL.out.trans (hb.mono HL.out.size)); clear HL; have HL := HL'; clear HL'
        have HA' := Lib.hid (HA.out.kept hb); clear HA; have HA := HA'; clear HA'
        clear hb
        have cHA := HA.out.cell
        have lHA := HA.out.lt
        go_wp2_with fail
        go_ret
        exact ⟨rfl, HL.out⟩
    case pos =>
      have hF := short_fit hs hnm
      have h17 := hF.len
      rw [hl] at h17
      obtain ⟨z, j, er, hp⟩ : ∃ z j er, parseA s = (z, j, er) := ⟨_, _, _, rfl⟩
      have htl : z.m.length ≤ 1000 := by have := parseA_16 hp; omega
      have HPa := Lib.hid (fun W => (Parse_any s W (by omega)).mono (pa_rz hp))
      have HrP := Lib.hid (fun W => (rParse_any s W (by omega)).mono (pa_rz hp))
      have HOw := Lib.hid (fun W (hW : Below w.heap.size w W) => own_r w.heap.size A n c a W (hM.below hW) hW.size (by omega))
      have HPr := Lib.hid (fun W A c (hW : Below w.heap.size w W) (hm : MsAt W W.heap.size A n a.m) (hc : n ≤ c) => Print_uni W.heap.size A n c a W hm (Nat.le_refl _) hF hc (HT.out.kept hW))
      have HCk := Lib.hid (fun W (hW : Below w.heap.size w W) => rCheckArm_any w.heap.size A n c a W (hM.below hW) hW.size hF)
      have HrPr := Lib.hid (fun W (hW : Below w.heap.size w W) (he : armE a = 0) => rPrint_uni w.heap.size A n c a W (hM.below hW) hW.size he)
      have HTx : Hid (armE a ≠ 0 → prT a = ⟨#[]⟩) := Lib.hid (fun h => if_neg h)
      obtain ⟨ee, hee⟩ : ∃ ee, armE a = ee := ⟨_, rfl⟩
      obtain ⟨tx, htx⟩ : ∃ tx, prT a = tx := ⟨_, rfl⟩
      rw [hee] at HPr HCk HrPr HTx
      rw [htx] at HPr HrPr HTx
      have HTb := Lib.hid (fun W A c (hm : MsAt W W.heap.size A z.m.length z.m) => told_r W.heap.size A z.m.length c z W hm (Nat.le_refl _) htl)
      have HSb := Lib.hid (fun W A1 A2 c1 c2 (h1 : MsAt W W.heap.size A1 z.m.length z.m) (h2 : MsAt W W.heap.size A2 z.m.length z.m) => Same_self W.heap.size W.heap.size A1 A2 z.m.length c1 c2 z W h1 h2 (Nat.le_refl _) (Nat.le_refl _) htl)
      clear hM hnm hF hs hee htx hp htl hl
      go_enter Tryz.func4, Tryz.ntmps4
      go_upto_region 1 with fail
      refine wp_world ?_
      intro w1 hW
      have HA : Hid (Blk w1 (w.heap.size) 26 #[.slice A n c, .int .i64 a.lo, .int .i64 a.hi, .int .i64 a.cur, .int .i64 a.lim]) := Lib.hid (by rw [hW]; exact Blk.new _ _ _)
      have HL : Hid (Below w.heap.size w w1) := Lib.hid (by rw [hW]; exact (Below.refl _ _).alloc (Nat.le_refl _) _)
      have hs1 := HL.out.size
      clear hW
      go_cut [31] (fun s31 wx => s31 = .bool false ∧ Below w1.heap.size w1 wx)
      case first =>
        as_aux_lemma =>
          have cHA := HA.out.cell
          have lHA := HA.out.lt
          go_wp2_with fail
          refine (HAw.out _ HL.out).mono ?_
          rintro e w2 ⟨rfl, hb⟩
          have HL2 := Lib.hid (HL.out.trans (hb.mono hs1))
          have HB2 := Lib.hid hb
          have HA2 := HA.out.kept hb
          clear cHA lHA HA hb
          have cHA := HA2.cell
          have lHA := HA2.lt
          go_wp2_with fail
          refine (HSh.out _ HL2.out).mono ?_
          rintro e w3 ⟨rfl, hb3⟩
          have HB3 := Lib.hid (HB2.out.trans (hb3.mono HB2.out.size))
          clear hb3 HB2 cHA lHA HA2
          by_cases h3 : s.size ≤ 300
          · have hd : ¬ (300 : Int) < (s.size : Int) := by omega
            have hd2 : decide ((300 : Int) < (s.size : Int)) = false := decide_eq_false hd
            clear hok
            go_wp2_with fail
            go_meet
            case rel => exact ⟨rfl, HB3.out⟩
          · have hd : (300 : Int) < (s.size : Int) := by omega
            have hd2 : decide ((300 : Int) < (s.size : Int)) = true := decide_eq_true hd
            have hd3 : (s.size : Int) = 4097 := by omega
            clear hok
            go_wp2_with fail
            go_meet
            case rel => exact ⟨rfl, HB3.out⟩
      rename World => w2
      obtain ⟨rfl, hb⟩ := hcut
      clear hok HSh HAw
      have hs2 := hb.size
      have HL' := Lib.hid (HL.out.trans (hb.mono HL.out.size)); clear HL; have HL := HL'; clear HL'
      have HA' := Lib.hid (HA.out.kept hb); clear HA; have HA := HA'; clear HA'
      clear hb
      have cHA := HA.out.cell
      have lHA := HA.out.lt
      go_wp2_with fail
      refine (HOw.out _ HL.out).mono ?_
      rintro e w3 ⟨A3, c3, rfl, hm, hc, hb⟩
      have HM3 := Lib.hid hm; have HC3 := Lib.hid hc; clear hm hc
      clear cHA lHA
      have hs3 := hb.size
      have HL' := Lib.hid (HL.out.trans (hb.mono HL.out.size)); clear HL; have HL := HL'; clear HL'
      have HA' := Lib.hid (HA.out.kept hb); clear HA; have HA := HA'; clear HA'
      clear hb
      have cHA := HA.out.cell
      have lHA := HA.out.lt
      go_wp2_with fail
      refine (HPr.out _ _ _ HL.out HM3.out HC3.out).mono ?_
      rintro e w4 ⟨rfl, hb⟩
      clear HM3 HC3
      clear cHA lHA
      have hs4 := hb.size
      have HL' := Lib.hid (HL.out.trans (hb.mono HL.out.size)); clear HL; have HL := HL'; clear HL'
      have HA' := Lib.hid (HA.out.kept hb); clear HA; have HA := HA'; clear HA'
      clear hb
      have cHA := HA.out.cell
      have lHA := HA.out.lt
      go_wp2_with fail
      refine (HPa.out _).mono ?_
      rintro e w5 ⟨A5, c5, rfl, hm, hc, hb⟩
      have HM5 := Lib.hid hm; have HC5 := Lib.hid hc; clear hm hc
      clear cHA lHA
      have hs5 := hb.size
      have HL' := Lib.hid (HL.out.trans (hb.mono HL.out.size)); clear HL; have HL := HL'; clear HL'
      have HA' := Lib.hid (HA.out.kept hb); clear HA; have HA := HA'; clear HA'
      clear hb
      have cHA := HA.out.cell
      have lHA := HA.out.lt
      go_upto_region 5 with fail
      refine wp_world ?_
      intro w6 hW
      have HP := Lib.hid (show Blk w6 w5.heap.size 36 #[.slice A5 z.m.length c5, .int .i64 z.lo, .int .i64 z.hi, .int .i64 z.cur, .int .i64 z.lim] from by rw [hW]; exact Blk.new _ _ _)
      have HPM := Lib.hid (show MsAt w6 w6.heap.size A5 z.m.length z.m from by rw [hW]; exact ms_kept HM5.out ((Below.refl _ _).alloc (Nat.le_refl _) _))
      have hb : Below w5.heap.size w5 w6 := by rw [hW]; exact (Below.refl _ _).alloc (Nat.le_refl _) _
      clear hW HM5 HC5
      clear cHA lHA
      have hs6 := hb.size
      have HL' := Lib.hid (HL.out.trans (hb.mono HL.out.size)); clear HL; have HL := HL'; clear HL'
      have HA' := Lib.hid (HA.out.kept hb); clear HA; have HA := HA'; clear HA'
      clear hb
      have cHA := HA.out.cell
      have lHA := HA.out.lt
      have cHP := HP.out.cell
      have lHP := HP.out.lt
      go_wp2_with fail
      refine (HCk.out _ HL.out).mono ?_
      rintro e w7 ⟨rfl, hb⟩
      clear cHA lHA cHP lHP
      have hs7 := hb.size
      have HL' := Lib.hid (HL.out.trans (hb.mono HL.out.size)); clear HL; have HL := HL'; clear HL'
      have HA' := Lib.hid (HA.out.kept hb); clear HA; have HA := HA'; clear HA'
      have HP' := Lib.hid (HP.out.kept hb); clear HP; have HP := HP'; clear HP'
      have HPM' := Lib.hid (ms_kept HPM.out hb); clear HPM; have HPM := HPM'; clear HPM'
      clear hb
      have cHA := HA.out.cell
      have lHA := HA.out.lt
      have cHP := HP.out.cell
      have lHP := HP.out.lt
      go_upto_if 48 with fail
      go_cut [11] (fun s11 wx => s11 = .string tx ∧ Below w7.heap.size w7 wx)
      case first =>
        as_aux_lemma =>
          clear HPa HrP HTb HSb HP HPM cHP lHP
          by_cases h0 : ee = 0
          case pos =>
            subst h0
            go_wp2_with fail
            refine (HrPr.out _ HL.out (by trivial)).mono ?_
            rintro e wx ⟨rfl, hb⟩
            go_wp2_with fail
            go_meet
            case rel => exact ⟨rfl, hb⟩
          case neg =>
            have hne : (ee == 0) = false := by simpa using h0
            have HX := Lib.hid (HTx.out h0)
            go_wp2_with fail
            go_meet
            case rel => exact ⟨by rw [HX.out], Below.refl _ _⟩
      rename World => w8
      obtain ⟨rfl, hb⟩ := hcut
      clear cHA lHA cHP lHP
      have hs8 := hb.size
      have HL' := Lib.hid (HL.out.trans (hb.mono HL.out.size)); clear HL; have HL := HL'; clear HL'
      have HA' := Lib.hid (HA.out.kept hb); clear HA; have HA := HA'; clear HA'
      have HP' := Lib.hid (HP.out.kept hb); clear HP; have HP := HP'; clear HP'
      have HPM' := Lib.hid (ms_kept HPM.out hb); clear HPM; have HPM := HPM'; clear HPM'
      clear hb
      have cHA := HA.out.cell
      have lHA := HA.out.lt
      have cHP := HP.out.cell
      have lHP := HP.out.lt
      go_wp2_with fail
      refine (HrP.out _).mono ?_
      rintro e w9 ⟨A9, c9, rfl, hm, hc, hb⟩
      have HM9 := Lib.hid hm; have HC9 := Lib.hid hc; clear hm hc
      clear cHA lHA cHP lHP
      have hs9 := hb.size
      have HL' := Lib.hid (HL.out.trans (hb.mono HL.out.size)); clear HL; have HL := HL'; clear HL'
      have HA' := Lib.hid (HA.out.kept hb); clear HA; have HA := HA'; clear HA'
      have HP' := Lib.hid (HP.out.kept hb); clear HP; have HP := HP'; clear HP'
      have HPM' := Lib.hid (ms_kept HPM.out hb); clear HPM; have HPM := HPM'; clear HPM'
      clear hb
      have cHA := HA.out.cell
      have lHA := HA.out.lt
      have cHP := HP.out.cell
      have lHP := HP.out.lt
      go_upto_region 10 with fail
      refine wp_world ?_
      intro w10 hW
      have HQ := Lib.hid (show Blk w10 w9.heap.size 26 #[.slice A9 z.m.length c9, .int .i64 z.lo, .int .i64 z.hi, .int .i64 z.cur, .int .i64 z.lim] from by rw [hW]; exact Blk.new _ _ _)
      have HQM := Lib.hid (show MsAt w10 w10.heap.size A9 z.m.length z.m from by rw [hW]; exact ms_kept HM9.out ((Below.refl _ _).alloc (Nat.le_refl _) _))
      have hb : Below w9.heap.size w9 w10 := by rw [hW]; exact (Below.refl _ _).alloc (Nat.le_refl _) _
      clear hW HM9 HC9
      clear cHA lHA cHP lHP
      have hs10 := hb.size
      have HL' := Lib.hid (HL.out.trans (hb.mono HL.out.size)); clear HL; have HL := HL'; clear HL'
      have HA' := Lib.hid (HA.out.kept hb); clear HA; have HA := HA'; clear HA'
      have HP' := Lib.hid (HP.out.kept hb); clear HP; have HP := HP'; clear HP'
      have HPM' := Lib.hid (ms_kept HPM.out hb); clear HPM; have HPM := HPM'; clear HPM'
      clear hb
      have cHA := HA.out.cell
      have lHA := HA.out.lt
      have cHP := HP.out.cell
      have lHP := HP.out.lt
      have cHQ := HQ.out.cell
      have lHQ := HQ.out.lt
      clear HPa HrP HOw HPr HCk HrPr HTx
      go_wp2_with fail
      (refine wp_region_calm [] [0, 1, 2, 3, 4, 5, 6, 7, 8, 9, 11] 14 (by kernel_rfl) rfl (by kernel_rfl) (by kernel_rfl) (by kernel_rfl) ?_; simp only [pickB, List.filterMap_cons, List.filterMap_nil, List.getElem?_toArray, List.getElem?_cons_zero, List.getElem?_cons_succ]; (repeat (first | ((first | (with_reducible refine quietL_plain rfl (fun K hK => ?_)) | (with_reducible refine quietL_want (by with_unfolding_all rfl) (fun K hK => ?_))); (apply Exists.intro; refine ⟨fun wx hx => ?_, ?_⟩; (· (have hcx := ifs_ex hx); simp [go_sem, *, ↓IntWalk.iteOmega] <;> (first | rfl | exact ⟨rfl, rfl⟩ | fail)); (simp only [Act.put, List.setIfInBounds_toArray, List.set_cons_zero, List.set_cons_succ]; refine hK _ ?_; clear hK K))) | ((with_reducible refine quietL_skip (by with_unfolding_all rfl) ?_); simp only [Act.put, List.setIfInBounds_toArray, List.set_cons_zero, List.set_cons_succ]))); refine quietL_nil ?_)
      (refine anyB_one_want (i := 10) (by kernel_rfl) rfl (by kernel_rfl) ?_; intro w11 hb11 K hK; have hs11 := hb11.size; (try simp at hs11); go_wp2_with fail)
      refine (HTb.out _ _ _ (ms_kept HPM.out hb11)).mono ?_
      rintro e w12 ⟨At1, ct1, rfl, hm, _, hb12⟩
      have hs12 := hb12.size
      have HM4 := Lib.hid hm
      clear hm
      (go_wp2; refine ⟨xs_, ?_⟩)
      (refine anyB_one_want (i := 12) (by kernel_rfl) rfl (by kernel_rfl) ?_; intro w13 hb13 K hK; have hs13 := hb13.size; (try simp at hs13); go_wp2_with fail)
      refine (HSb.out _ _ _ _ _ (ms_kept HM4.out hb13) (ms_kept (ms_kept (ms_kept HQM.out hb11) hb12) hb13)).mono ?_
      rintro e w14 ⟨rfl, hb14⟩
      have hs14 := hb14.size
      (go_wp2; refine ⟨xs_, ?_⟩)
      (refine anyB_quiet_at (by kernel_rfl) calm_panic xs_ 1 [13, 14, 15, 16, 17, 18, 19, 20, 21, 22, 23] _ _ (by kernel_rfl) (by decide +kernel) ?_; simp only [pickB, List.filterMap_cons, List.filterMap_nil, List.getElem?_toArray, List.getElem?_cons_zero, List.getElem?_cons_succ]; (repeat (first | ((first | (with_reducible refine quietL_plain rfl (fun K hK => ?_)) | (with_reducible refine quietL_want (by with_unfolding_all rfl) (fun K hK => ?_))); (apply Exists.intro; refine ⟨fun wx hx => ?_, ?_⟩; (· (have hcx := ifs_ex hx); simp [go_sem, *, ↓IntWalk.iteOmega] <;> (first | rfl | exact ⟨rfl, rfl⟩ | fail)); (simp only [Act.put, List.setIfInBounds_toArray, List.set_cons_zero, List.set_cons_succ]; refine hK _ ?_; clear hK K))) | ((with_reducible refine quietL_skip (by with_unfolding_all rfl) ?_); simp only [Act.put, List.setIfInBounds_toArray, List.set_cons_zero, List.set_cons_succ]))); refine quietL_nil ?_)
      (refine anyB_one (i := 24) (by kernel_rfl) rfl rfl ?_; intro w15 hb15 K hK; have hs15 := hb15.size; (try simp at hs15); go_wp2; refine ⟨xs_, ?_⟩)
      (refine anyB_end (by kernel_rfl) ?_; intro w16 hb16; have hs16 := hb16.size; (try simp at hs16); simp only [Calm])
      have hb := hb11.trans ((hb12.trans ((hb13.trans ((hb14.trans ((hb15.trans ((hb16).mono hs15)).mono hs14)).mono hs13)).mono hs12)).mono hs11)
      have HLz := Lib.hid (HL.out.trans (hb.mono HL.out.size))
      clear hb hb11 hb12 hb13 hb14 hb15 hb16 cHA lHA cHP lHP cHQ lHQ
      go_wp2_with fail
      go_ret
      exact ⟨by first | rfl | (simp; done), HLz.out⟩
end Go.Proofs.YtjanojmgnpfjeaaGreatDoor
