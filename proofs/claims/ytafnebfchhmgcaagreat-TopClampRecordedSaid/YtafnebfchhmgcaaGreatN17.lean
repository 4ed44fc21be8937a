/- The law TopClampRecorded. -/
import Derived.Test.YtafnebfchhmgcaaGreatN16
namespace Go.Proofs.YtafnebfchhmgcaaGreat
open Go Go.RowKit Go.Sort Go.Shelf
set_option linter.unusedSimpArgs false
set_option linter.unusedVariables false
attribute [local go_sem] cell_if frozen_if grow_cell
set_option maxRecDepth 1000000 in
set_option maxHeartbeats 16000000 in
theorem recorded_any (A A2 : Option Addr) (n c n2 c2 : Nat) (a : Ar) (l : List Od) (w : World) (hM : MsAt w w.heap.size A n a.m) (hn : n ≤ maxLen) (hnm : ∀ x ∈ a.m, x.n.size ≤ maxLen) (hO : Reads w w.heap.size 2 A2 n2 (ods l)) (hn2 : n2 ≤ maxLen) (hc2 : n2 ≤ c2) :
    Calls Tryz.prog 3 #[.agg #[.slice A n c, .int .i64 a.lo, .int .i64 a.hi, .int .i64 a.cur, .int .i64 a.lim], .slice A2 n2 c2] w fun e w' => e = .returned (.bool true) ∧ Below w.heap.size w w' := by
  have hl := (md_at hM).1
  have hl2 := (od_at hO).1
  have HAw := Lib.hid (fun W (_ : Below w.heap.size w W) => clampPair_any W)
  have HFi := Lib.hid (fun W (hW : Below w.heap.size w W) => clampFine_any w.heap.size w.heap.size A A2 n c n2 c2 a l W (hM.below hW) hW.size hn hnm (hO.below hW) hW.size hn2)
  have hmx : maxLen = 9223372036854775807 := rfl
  rw [hmx] at hn hn2
  clear hmx
  cases hf : fineB a l with
  | false =>
    rw [hf] at HFi
    clear hM hnm hl hO hl2 hf
    go_enter Tryz.func3, Tryz.ntmps3
    go_wp2_with fail
    refine (HAw.out _ bl_).mono ?_
    rintro e w1 ⟨rfl, hb⟩
    have HA : Hid (Blk w1 (w.heap.size) 26 #[.slice A n c, .int .i64 a.lo, .int .i64 a.hi, .int .i64 a.cur, .int .i64 a.lim]) := Lib.hid bk_
    have HL : Hid (Below w.heap.size w w1) := Lib.hid bl_
    have hs1 := HL.out.size
    clear hb
    have cHA := HA.out.cell
    have lHA := HA.out.lt
    go_wp2_with fail
    refine (HFi.out _ HL.out).mono ?_
    rintro e w2 ⟨rfl, hb⟩
    clear cHA lHA
    have hs2 := hb.size
    have HL' := Lib.hid (HL.out.trans (hb.mono HL.out.size)); clear HL; have HL := HL'; clear HL'
    have HA' := Lib.hid (HA.out.kept hb); clear HA; have HA := HA'; clear HA'
    clear hb
    have cHA := HA.out.cell
    have lHA := HA.out.lt
    go_wp2_with fail
    refine (HAw.out _ HL.out).mono ?_
    rintro e w3 ⟨rfl, hb⟩
    clear cHA lHA
    have hs3 := hb.size
    have HL' := Lib.hid (HL.out.trans (hb.mono HL.out.size)); clear HL; have HL := HL'; clear HL'
    have HA' := Lib.hid (HA.out.kept hb); clear HA; have HA := HA'; clear HA'
    clear hb
    have cHA := HA.out.cell
    have lHA := HA.out.lt
    go_wp2_with fail
    go_ret
    exact ⟨rfl, HL.out⟩
  | true =>
    rw [hf] at HFi
    obtain ⟨hsh, h8, hE, h28, hro⟩ := fine_of hf
    have hF := short_fit hsh hnm
    have ho := (rords_zero hro).2
    have hOE := ords_of hE hro
    rw [hl] at h8
    rw [hl2] at h28
    have hq2 : n2 ≤ 1000 := by omega
    have HOw := Lib.hid (fun W (hW : Below w.heap.size w W) => clampArm_r w.heap.size A n c a W (hM.below hW) hW.size (by omega))
    have HOd := Lib.hid (fun W (hW : Below w.heap.size w W) => clampOrders_any w.heap.size A2 n2 c2 l W (hO.below hW) hW.size hq2)
    have HOk := Lib.hid (fun W k (hk : k ≤ n2) (hW : Below w.heap.size w W) => clampOrders_any w.heap.size A2 k c2 (l.take k) W ((reads_ods hO hk).below hW) hW.size (by omega))
    unfold OdsRes at HOd HOk
    unfold OwnC at HOw
    have HEn := Lib.hid (⟨hE, ho, hF, hOE, hl, hl2⟩ : armE a = 0 ∧ (∀ o ∈ l, orderE o = 0) ∧ FitA a ∧ ordsE a l = 0 ∧ a.m.length = n ∧ l.length = n2)
    have HMs := Lib.hid hM
    have HOs := Lib.hid hO
    rcases goTo_or l a with ⟨b, hgo⟩ | ⟨k, b, hk, hgo, hne⟩
    case inr =>
      as_aux_lemma =>
        have hrun := run_at hk hgo hne
        have hwk := wrk_err hOE hrun
        obtain ⟨hEb, hS4⟩ := goTo_ok hE (fun x hx => ho x (List.mem_of_mem_take hx)) hgo
        have hFb := fit_step hF hS4
        have hbl : b.m.length = n := hS4.len.trans hl
        have hbm := same_mk hS4
        have hst := stp_eq hEb (ho _ (List.getElem_mem hk))
        obtain ⟨er, her⟩ : ∃ er, stepE b l[k] = er := ⟨_, rfl⟩
        obtain ⟨o, hoo⟩ : ∃ o, l[k] = o := ⟨_, rfl⟩
        rw [hoo] at hst her
        rw [hoo, her] at hrun hwk hne
        have hOEk := ords_take (a := a) k hE (by omega) ho
        have hkn : k < n2 := by omega
        have hlk : (l.take k).length = k := by rw [List.length_take]; omega
        have HLg := Lib.hid (fun W A A3 c c3 (hm : MsAt W W.heap.size A n a.m) (hc : n ≤ c) (hr : Reads W W.heap.size 2 A3 n2 (ods l)) => (Log_any W.heap.size W.heap.size A A3 n c n2 c3 a l W hm (Nat.le_refl _) hF hc hr (Nat.le_refl _) hq2).mono (fun e w' h => log_no (er := er) (by rw [← hwk]; exact h) hne))
        have HRu := Lib.hid (fun W A A3 c c3 (hm : MsAt W W.heap.size A n a.m) (hc : n ≤ c) (hr : Reads W W.heap.size 2 A3 n2 (ods l)) => (Run_any W.heap.size W.heap.size A A3 n c n2 c3 a l W hm (Nat.le_refl _) hF hc hr (Nat.le_refl _) hq2).mono (fun e w' h => run_err hOE hrun hne h))
        have HRk := Lib.hid (fun W A A3 c c3 (hm : MsAt W W.heap.size A n a.m) (hc : n ≤ c) (hr : Reads W W.heap.size 2 A3 k (ods (l.take k))) => (Run_any W.heap.size W.heap.size A A3 n c k c3 a (l.take k) W hm (Nat.le_refl _) hF hc hr (Nat.le_refl _) (by omega)).mono (fun e w' h => run_ok hOEk hgo h))
        have HSt := Lib.hid (fun W A c (hm : MsAt W W.heap.size A n b.m) (hc : n ≤ c) => (Step_any W.heap.size A n c b o W hm (Nat.le_refl _) hFb hc).mono (fun e w' h => step_no (er := er) (by rw [← her, ← hst]; exact h) hne))
        rw [hbm] at HSt
        dsimp only at HSt
        have HBl := Lib.hid hbl
        have HHo := Lib.hid hoo
        have HHk := Lib.hid hk
        have hb1 : (er != 0) = true := by simpa using hne
        have hb2 : (er != er) = false := by simp
        have hb3 : ¬ ((k : Int) < 0) := by omega
        have hb4 : ¬ ((n2 : Int) ≤ (k : Int)) := by omega
        have hb5 : (er == er) = true := by simp
        clear hM hnm hO hF hsh hro hE ho hOE hl hl2 hgo hrun hwk hEb hS4 hFb hbl hbm hst her hOEk hlk
        go_enter Tryz.func3, Tryz.ntmps3
        go_wp2_with fail
        refine (HAw.out _ bl_).mono ?_
        rintro e w1 ⟨rfl, hb⟩
        have HA : Hid (Blk w1 (w.heap.size) 26 #[.slice A n c, .int .i64 a.lo, .int .i64 a.hi, .int .i64 a.cur, .int .i64 a.lim]) := Lib.hid bk_
        have HL : Hid (Below w.heap.size w w1) := Lib.hid bl_
        have hs1 := HL.out.size
        clear hb
        have cHA := HA.out.cell
        have lHA := HA.out.lt
        go_wp2_with fail
        refine (HFi.out _ HL.out).mono ?_
        rintro e w2 ⟨rfl, hb⟩
        clear cHA lHA
        have hs2 := hb.size
        have HL' := Lib.hid (HL.out.trans (hb.mono HL.out.size)); clear HL; have HL := HL'; clear HL'
        have HA' := Lib.hid (HA.out.kept hb); clear HA; have HA := HA'; clear HA'
        clear hb
        have cHA := HA.out.cell
        have lHA := HA.out.lt
        go_wp2_with fail
        refine (HOw.out _ HL.out).mono ?_
        rintro e w3 ⟨A3, c3, rfl, hm, hc, hb⟩
        have HM3 := Lib.hid hm; have HC3 := Lib.hid hc; clear hm hc
        clear cHA lHA
        have hs3 := hb.size
        have HL' := Lib.hid (HL.out.trans (hb.mono HL.out.size)); clear HL; have HL := HL'; clear HL'
        have HA' := Lib.hid (HA.out.kept hb); clear HA; have HA := HA'; clear HA'
        clear hb
        have cHA := HA.out.cell
        have lHA := HA.out.lt
        go_wp2_with fail
        refine (HOd.out _ HL.out).mono ?_
        rintro e w4 ⟨A4, c4, rfl, hrd, _, hb⟩
        have HR4 := Lib.hid hrd; clear hrd; have HM32 := Lib.hid (ms_kept HM3.out hb); clear HM3
        clear cHA lHA
        have hs4 := hb.size
        have HL' := Lib.hid (HL.out.trans (hb.mono HL.out.size)); clear HL; have HL := HL'; clear HL'
        have HA' := Lib.hid (HA.out.kept hb); clear HA; have HA := HA'; clear HA'
        clear hb
        have cHA := HA.out.cell
        have lHA := HA.out.lt
        go_wp2_with fail
        refine (HLg.out _ _ _ _ _ HM32.out HC3.out HR4.out).mono ?_
        rintro e w5 ⟨rfl, hb⟩
        clear HM32 HC3 HR4 HLg
        clear cHA lHA
        have hs5 := hb.size
        have HL' := Lib.hid (HL.out.trans (hb.mono HL.out.size)); clear HL; have HL := HL'; clear HL'
        have HA' := Lib.hid (HA.out.kept hb); clear HA; have HA := HA'; clear HA'
        clear hb
        have cHA := HA.out.cell
        have lHA := HA.out.lt
        go_wp2_with fail
        refine (HOw.out _ HL.out).mono ?_
        rintro e w6 ⟨A6, c6, rfl, hm, hc, hb⟩
        have HM6 := Lib.hid hm; have HC6 := Lib.hid hc; clear hm hc
        clear cHA lHA
        have hs6 := hb.size
        have HL' := Lib.hid (HL.out.trans (hb.mono HL.out.size)); clear HL; have HL := HL'; clear HL'
        have HA' := Lib.hid (HA.out.kept hb); clear HA; have HA := HA'; clear HA'
        clear hb
        have cHA := HA.out.cell
        have lHA := HA.out.lt
        go_wp2_with fail
        refine (HOd.out _ HL.out).mono ?_
        rintro e w7 ⟨A7, c7, rfl, hrd, _, hb⟩
        have HR7 := Lib.hid hrd; clear hrd; have HM62 := Lib.hid (ms_kept HM6.out hb); clear HM6
        clear cHA lHA
        have hs7 := hb.size
        have HL' := Lib.hid (HL.out.trans (hb.mono HL.out.size)); clear HL; have HL := HL'; clear HL'
        have HA' := Lib.hid (HA.out.kept hb); clear HA; have HA := HA'; clear HA'
        clear hb
        have cHA := HA.out.cell
        have lHA := HA.out.lt
        go_wp2_with fail
        refine (HRu.out _ _ _ _ _ HM62.out HC6.out HR7.out).mono ?_
        rintro e w8 ⟨rfl, hb⟩
        clear HM62 HC6 HR7 HRu
        clear cHA lHA
        have hs8 := hb.size
        have HL' := Lib.hid (HL.out.trans (hb.mono HL.out.size)); clear HL; have HL := HL'; clear HL'
        have HA' := Lib.hid (HA.out.kept hb); clear HA; have HA := HA'; clear HA'
        clear hb
        have cHA := HA.out.cell
        have lHA := HA.out.lt
        go_upto_region 8 with fail
        refine wp_world ?_
        intro W0 hW0
        have hb0 : Below w8.heap.size w8 W0 := by rw [hW0]; exact bl_
        have HA0 := Lib.hid (HA.out.kept hb0)
        have HL0 := Lib.hid (HL.out.trans (hb0.mono HL.out.size))
        clear hW0 hb0 cHA lHA HA HL
        have cHA := HA0.out.cell
        have lHA := HA0.out.lt
        have hbl2 : k ≤ n2 := by omega
        have hbl3 : k ≤ c2 := by omega
        have hbl4 : ¬ (c2 < k) := by omega
        have hbl5 : ¬ ((c2 : Int) < (k : Int)) := by omega
        have hbl6 : (k : Int) ≤ (c2 : Int) := by omega
        have hbl7 : (0 : Int) ≤ (k : Int) := by omega
        go_cut [10, 12] (fun s10 s12 wx => ∃ (pb g : Nat), s10 = .pointer (some ⟨pb, 0, none⟩) ∧ s12 = .int .i64 0 ∧ Blk wx pb 36 #[.slice (some ⟨g, 0, none⟩) n n, .int .i64 a.lo, .int .i64 a.hi, .int .i64 a.cur, .int .i64 a.lim] ∧ MsAt wx wx.heap.size (some ⟨g, 0, none⟩) n b.m ∧ Below W0.heap.size W0 wx)
        case first =>
          as_aux_lemma =>
            go_wp2_with fail
            have HP := Lib.hid (Below.refl W0.heap.size W0)
            (refine wp_region_calm [] [0, 2, 3, 4] 11 (by kernel_rfl) rfl (by kernel_rfl) (by kernel_rfl) (by kernel_rfl) ?_; simp only [pickB, List.filterMap_cons, List.filterMap_nil, List.getElem?_toArray, List.getElem?_cons_zero, List.getElem?_cons_succ]; (repeat (first | ((first | (with_reducible refine quietL_plain rfl (fun K hK => ?_)) | (with_reducible refine quietL_want (by with_unfolding_all rfl) (fun K hK => ?_))); (apply Exists.intro; refine ⟨fun wx hx => ?_, ?_⟩; (· (have hcx := ifs_ex hx); simp [go_sem, *, ↓IntWalk.iteOmega] <;> (first | rfl | exact ⟨rfl, rfl⟩ | skip)); (simp only [Act.put, List.setIfInBounds_toArray, List.set_cons_zero, List.set_cons_succ]; refine hK _ ?_; clear hK K))) | ((with_reducible refine quietL_skip (by with_unfolding_all rfl) ?_); simp only [Act.put, List.setIfInBounds_toArray, List.set_cons_zero, List.set_cons_succ]))); refine quietL_nil ?_)
            as_aux_lemma =>
              refine anyB_two (i := 1) (j := 11) (by kernel_rfl) rfl rfl rfl rfl ?_ ?_
              · skip
                as_aux_lemma =>
                  intro wca hbca K hK
                  have hsca := hbca.size
                  (try simp at hsca)
                  replace HP := Lib.hid (HP.out.trans (hbca.mono HP.out.size))
                  (try replace HMo := Lib.hid (ms_kept HMo.out hbca))
                  (try replace HRo := Lib.hid (ods_kept HRo.out hbca))
                  (try replace BB := Lib.hid (BB.out.kept hbca))
                  (try replace HG := Lib.hid (ms_kept HG.out hbca))
                  clear hbca
                  go_wp2_with fail
                  refine (HOw.out _ (HL0.out.trans (HP.out.mono HL0.out.size))).mono ?_
                  rintro e wcb ⟨Ao, co, rfl, hm, hc, hbcb⟩
                  have hscb := hbcb.size
                  (try replace HMo := Lib.hid (ms_kept HMo.out hbcb))
                  (try replace HRo := Lib.hid (ods_kept HRo.out hbcb))
                  (try replace BB := Lib.hid (BB.out.kept hbcb))
                  (try replace HG := Lib.hid (ms_kept HG.out hbcb))
                  have HMo := Lib.hid hm; have HCo := Lib.hid hc; clear hm hc
                  replace HP := Lib.hid (HP.out.trans (hbcb.mono HP.out.size))
                  clear hbcb
                  go_wp2
                  (try clear hx_)
                  have hx_ := Ex.of_below (X := []) HP.out
                  refine ⟨hx_, ?_⟩
                  as_aux_lemma =>
                    refine anyB_two (i := 5) (j := 11) (by kernel_rfl) rfl rfl rfl rfl ?_ ?_
                    · skip
                      intro wda hbda K hK
                      have hsda := hbda.size
                      (try simp at hsda)
                      replace HP := Lib.hid (HP.out.trans (hbda.mono HP.out.size))
                      (try replace HMo := Lib.hid (ms_kept HMo.out hbda))
                      (try replace HRo := Lib.hid (ods_kept HRo.out hbda))
                      (try replace BB := Lib.hid (BB.out.kept hbda))
                      (try replace HG := Lib.hid (ms_kept HG.out hbda))
                      clear hbda
                      go_wp2_with fail
                      refine (HOk.out _ k hbl2 (HL0.out.trans (HP.out.mono HL0.out.size))).mono ?_
                      rintro e wdb ⟨Ad, cd, rfl, hrd, _, hbdb⟩
                      have hsdb := hbdb.size
                      (try replace HMo := Lib.hid (ms_kept HMo.out hbdb))
                      (try replace HRo := Lib.hid (ods_kept HRo.out hbdb))
                      (try replace BB := Lib.hid (BB.out.kept hbdb))
                      (try replace HG := Lib.hid (ms_kept HG.out hbdb))
                      have HRo := Lib.hid hrd; clear hrd
                      replace HP := Lib.hid (HP.out.trans (hbdb.mono HP.out.size))
                      clear hbdb
                      go_wp2
                      (try clear hx_)
                      have hx_ := Ex.of_below (X := []) HP.out
                      refine ⟨hx_, ?_⟩
                      as_aux_lemma =>
                        refine anyB_two (i := 6) (j := 11) (by kernel_rfl) rfl rfl rfl rfl ?_ ?_
                        · skip
                          intro wfa hbfa K hK
                          have hsfa := hbfa.size
                          (try simp at hsfa)
                          replace HP := Lib.hid (HP.out.trans (hbfa.mono HP.out.size))
                          (try replace HMo := Lib.hid (ms_kept HMo.out hbfa))
                          (try replace HRo := Lib.hid (ods_kept HRo.out hbfa))
                          (try replace BB := Lib.hid (BB.out.kept hbfa))
                          (try replace HG := Lib.hid (ms_kept HG.out hbfa))
                          clear hbfa
                          go_wp2_with fail
                          refine (HRk.out _ _ _ _ _ HMo.out HCo.out HRo.out).mono ?_
                          rintro e wfb ⟨g, rfl, hg, hbfb⟩
                          have hsfb := hbfb.size
                          (try replace HMo := Lib.hid (ms_kept HMo.out hbfb))
                          (try replace HRo := Lib.hid (ods_kept HRo.out hbfb))
                          (try replace BB := Lib.hid (BB.out.kept hbfb))
                          (try replace HG := Lib.hid (ms_kept HG.out hbfb))
                          have HG : Hid (MsAt wfb wfb.heap.size (some ⟨g, 0, none⟩) n b.m) := Lib.hid ((BlkArm.at (b := b) hg HBl.out).more (Blk.lt hg)); clear hg HMo HRo
                          replace HP := Lib.hid (HP.out.trans (hbfb.mono HP.out.size))
                          clear hbfb
                          go_wp2
                          (try clear hx_)
                          have hx_ := Ex.of_below (X := []) HP.out
                          refine ⟨hx_, ?_⟩
                          as_aux_lemma =>
                            (refine anyB_quiet_at (by kernel_rfl) calm_panic xs_ 4 [7, 8, 9, 10] _ _ (by kernel_rfl) (by decide +kernel) ?_; simp only [pickB, List.filterMap_cons, List.filterMap_nil, List.getElem?_toArray, List.getElem?_cons_zero, List.getElem?_cons_succ]; (repeat (first | ((first | (with_reducible refine quietL_plain rfl (fun K hK => ?_)) | (with_reducible refine quietL_want (by with_unfolding_all rfl) (fun K hK => ?_))); (apply Exists.intro; refine ⟨fun wx hx => ?_, ?_⟩; (· (have hcx := ifs_ex hx); simp [go_sem, *, ↓IntWalk.iteOmega] <;> (first | rfl | exact ⟨rfl, rfl⟩ | fail)); (simp only [Act.put, List.setIfInBounds_toArray, List.set_cons_zero, List.set_cons_succ]; refine hK _ ?_; clear hK K))) | ((with_reducible refine quietL_skip (by with_unfolding_all rfl) ?_); simp only [Act.put, List.setIfInBounds_toArray, List.set_cons_zero, List.set_cons_succ]))); refine quietL_nil ?_)
                            refine anyB_one (i := 11) (by kernel_rfl) rfl rfl ?_
                            intro wha hbha K hK
                            have hsha := hbha.size
                            (try simp at hsha)
                            replace HP := Lib.hid (HP.out.trans (hbha.mono HP.out.size))
                            (try replace HMo := Lib.hid (ms_kept HMo.out hbha))
                            (try replace HRo := Lib.hid (ods_kept HRo.out hbha))
                            (try replace BB := Lib.hid (BB.out.kept hbha))
                            (try replace HG := Lib.hid (ms_kept HG.out hbha))
                            have hbx : Below wha.heap.size wha (wha.alloc (.cells #[.slice none 0 0, .int .i64 0, .int .i64 0, .int .i64 0, .int .i64 0] 36)) := (Below.refl _ _).alloc (Nat.le_refl _) _
                            (try replace HMo := Lib.hid (ms_kept HMo.out hbx))
                            (try replace HRo := Lib.hid (ods_kept HRo.out hbx))
                            (try replace BB := Lib.hid (BB.out.kept hbx))
                            (try replace HG := Lib.hid (ms_kept HG.out hbx))
                            have BB := Lib.hid (Blk.new wha 36 #[.slice none 0 0, .int .i64 0, .int .i64 0, .int .i64 0, .int .i64 0])
                            have hlBB := HP.out.size
                            have HP' := Lib.hid (HP.out.trans (hbx.mono HP.out.size))
                            clear hbha hbx
                            go_wp2
                            (try clear hx_)
                            have hx_ := Ex.of_below (X := []) HP'.out
                            refine ⟨hx_, ?_⟩
                            clear HP
                            have HP := HP'
                            clear HP'
                            generalize wha.heap.size = bBB at *
                            as_aux_lemma =>
                              refine anyB_one (i := 12) (by kernel_rfl) rfl rfl ?_
                              intro wi hbi K hK
                              replace HP := Lib.hid (HP.out.trans (hbi.mono HP.out.size))
                              (try replace HMo := Lib.hid (ms_kept HMo.out hbi))
                              (try replace HRo := Lib.hid (ods_kept HRo.out hbi))
                              (try replace BB := Lib.hid (BB.out.kept hbi))
                              (try replace HG := Lib.hid (ms_kept HG.out hbi))
                              have cB := BB.out.cell
                              have fB := BB.out.frozen
                              have lB := BB.out.lt
                              go_wp2
                              have BC := Lib.hid (put5_blk (v0 := .slice (some ⟨g, 0, none⟩) n n) (v1 := .int .i64 a.lo) (v2 := .int .i64 a.hi) (v3 := .int .i64 a.cur) (v4 := .int .i64 a.lim) BB.out)
                              have HPc := Lib.hid (put5_low (v0 := .slice (some ⟨g, 0, none⟩) n n) (v1 := .int .i64 a.lo) (v2 := .int .i64 a.hi) (v3 := .int .i64 a.cur) (v4 := .int .i64 a.lim) HP.out hlBB)
                              have HGc := Lib.hid (ms_put5 (v0 := .slice (some ⟨g, 0, none⟩) n n) (v1 := .int .i64 a.lo) (v2 := .int .i64 a.hi) (v3 := .int .i64 a.cur) (v4 := .int .i64 a.lim) HG.out BB.out)
                              refine ⟨Ex.of_below HPc.out, ?_⟩
                              clear cB fB lB HP BB HG hbi
                              have HP := HPc
                              have BB := BC
                              have HG := HGc
                              clear HPc BC HGc
                              refine anyB_one (i := 13) (by kernel_rfl) rfl rfl ?_
                              intro wj hbj K hK
                              replace HP := Lib.hid (HP.out.trans (hbj.mono HP.out.size))
                              (try replace HMo := Lib.hid (ms_kept HMo.out hbj))
                              (try replace HRo := Lib.hid (ods_kept HRo.out hbj))
                              (try replace BB := Lib.hid (BB.out.kept hbj))
                              (try replace HG := Lib.hid (ms_kept HG.out hbj))
                              clear hbj
                              go_wp2
                              refine ⟨Ex.of_below HP.out, ?_⟩
                              refine anyB_one (i := 14) (by kernel_rfl) rfl rfl ?_
                              intro wk hbk K hK
                              replace HP := Lib.hid (HP.out.trans (hbk.mono HP.out.size))
                              (try replace HMo := Lib.hid (ms_kept HMo.out hbk))
                              (try replace HRo := Lib.hid (ods_kept HRo.out hbk))
                              (try replace BB := Lib.hid (BB.out.kept hbk))
                              (try replace HG := Lib.hid (ms_kept HG.out hbk))
                              clear hbk
                              go_wp2
                              refine ⟨Ex.of_below HP.out, ?_⟩
                              refine anyB_end (by kernel_rfl) ?_
                              intro wl hbl
                              simp only [Calm]
                              replace HP := Lib.hid (HP.out.trans (hbl.mono HP.out.size))
                              (try replace HMo := Lib.hid (ms_kept HMo.out hbl))
                              (try replace HRo := Lib.hid (ods_kept HRo.out hbl))
                              (try replace BB := Lib.hid (BB.out.kept hbl))
                              (try replace HG := Lib.hid (ms_kept HG.out hbl))
                              clear hbl
                              go_wp2_with fail
                              go_meet
                              case rel => exact ⟨_, g, rfl, rfl, BB.out, HG.out, HP.out⟩
                        · skip
                          intro wha hbha K hK
                          have hsha := hbha.size
                          (try simp at hsha)
                          replace HP := Lib.hid (HP.out.trans (hbha.mono HP.out.size))
                          (try replace HMo := Lib.hid (ms_kept HMo.out hbha))
                          (try replace HRo := Lib.hid (ods_kept HRo.out hbha))
                          (try replace BB := Lib.hid (BB.out.kept hbha))
                          (try replace HG := Lib.hid (ms_kept HG.out hbha))
                          have hbx : Below wha.heap.size wha (wha.alloc (.cells #[.slice none 0 0, .int .i64 0, .int .i64 0, .int .i64 0, .int .i64 0] 36)) := (Below.refl _ _).alloc (Nat.le_refl _) _
                          (try replace HMo := Lib.hid (ms_kept HMo.out hbx))
                          (try replace HRo := Lib.hid (ods_kept HRo.out hbx))
                          (try replace BB := Lib.hid (BB.out.kept hbx))
                          (try replace HG := Lib.hid (ms_kept HG.out hbx))
                          have BB := Lib.hid (Blk.new wha 36 #[.slice none 0 0, .int .i64 0, .int .i64 0, .int .i64 0, .int .i64 0])
                          have hlBB := HP.out.size
                          have HP' := Lib.hid (HP.out.trans (hbx.mono HP.out.size))
                          clear hbha hbx
                          go_wp2
                          (try clear hx_)
                          have hx_ := Ex.of_below (X := []) HP'.out
                          refine ⟨hx_, ?_⟩
                          clear HP
                          have HP := HP'
                          clear HP'
                          generalize wha.heap.size = bBB at *
                          as_aux_lemma =>
                            refine anyB_one (i := 6) (by kernel_rfl) rfl rfl ?_
                            intro wfa hbfa K hK
                            have hsfa := hbfa.size
                            (try simp at hsfa)
                            replace HP := Lib.hid (HP.out.trans (hbfa.mono HP.out.size))
                            (try replace HMo := Lib.hid (ms_kept HMo.out hbfa))
                            (try replace HRo := Lib.hid (ods_kept HRo.out hbfa))
                            (try replace BB := Lib.hid (BB.out.kept hbfa))
                            (try replace HG := Lib.hid (ms_kept HG.out hbfa))
                            clear hbfa
                            go_wp2_with fail
                            refine (HRk.out _ _ _ _ _ HMo.out HCo.out HRo.out).mono ?_
                            rintro e wfb ⟨g, rfl, hg, hbfb⟩
                            have hsfb := hbfb.size
                            (try replace HMo := Lib.hid (ms_kept HMo.out hbfb))
                            (try replace HRo := Lib.hid (ods_kept HRo.out hbfb))
                            (try replace BB := Lib.hid (BB.out.kept hbfb))
                            (try replace HG := Lib.hid (ms_kept HG.out hbfb))
                            have HG : Hid (MsAt wfb wfb.heap.size (some ⟨g, 0, none⟩) n b.m) := Lib.hid ((BlkArm.at (b := b) hg HBl.out).more (Blk.lt hg)); clear hg HMo HRo
                            replace HP := Lib.hid (HP.out.trans (hbfb.mono HP.out.size))
                            clear hbfb
                            go_wp2
                            (try clear hx_)
                            have hx_ := Ex.of_below (X := []) HP.out
                            refine ⟨hx_, ?_⟩
                            as_aux_lemma =>
                              (refine anyB_quiet_at (by kernel_rfl) calm_panic xs_ 3 [7, 8, 9, 10] _ _ (by kernel_rfl) (by decide +kernel) ?_; simp only [pickB, List.filterMap_cons, List.filterMap_nil, List.getElem?_toArray, List.getElem?_cons_zero, List.getElem?_cons_succ]; (repeat (first | ((first | (with_reducible refine quietL_plain rfl (fun K hK => ?_)) | (with_reducible refine quietL_want (by with_unfolding_all rfl) (fun K hK => ?_))); (apply Exists.intro; refine ⟨fun wx hx => ?_, ?_⟩; (· (have hcx := ifs_ex hx); simp [go_sem, *, ↓IntWalk.iteOmega] <;> (first | rfl | exact ⟨rfl, rfl⟩ | fail)); (simp only [Act.put, List.setIfInBounds_toArray, List.set_cons_zero, List.set_cons_succ]; refine hK _ ?_; clear hK K))) | ((with_reducible refine quietL_skip (by with_unfolding_all rfl) ?_); simp only [Act.put, List.setIfInBounds_toArray, List.set_cons_zero, List.set_cons_succ]))); refine quietL_nil ?_)
                              refine anyB_one (i := 12) (by kernel_rfl) rfl rfl ?_
                              intro wi hbi K hK
                              replace HP := Lib.hid (HP.out.trans (hbi.mono HP.out.size))
                              (try replace HMo := Lib.hid (ms_kept HMo.out hbi))
                              (try replace HRo := Lib.hid (ods_kept HRo.out hbi))
                              (try replace BB := Lib.hid (BB.out.kept hbi))
                              (try replace HG := Lib.hid (ms_kept HG.out hbi))
                              have cB := BB.out.cell
                              have fB := BB.out.frozen
                              have lB := BB.out.lt
                              go_wp2
                              have BC := Lib.hid (put5_blk (v0 := .slice (some ⟨g, 0, none⟩) n n) (v1 := .int .i64 a.lo) (v2 := .int .i64 a.hi) (v3 := .int .i64 a.cur) (v4 := .int .i64 a.lim) BB.out)
                              have HPc := Lib.hid (put5_low (v0 := .slice (some ⟨g, 0, none⟩) n n) (v1 := .int .i64 a.lo) (v2 := .int .i64 a.hi) (v3 := .int .i64 a.cur) (v4 := .int .i64 a.lim) HP.out hlBB)
                              have HGc := Lib.hid (ms_put5 (v0 := .slice (some ⟨g, 0, none⟩) n n) (v1 := .int .i64 a.lo) (v2 := .int .i64 a.hi) (v3 := .int .i64 a.cur) (v4 := .int .i64 a.lim) HG.out BB.out)
                              refine ⟨Ex.of_below HPc.out, ?_⟩
                              clear cB fB lB HP BB HG hbi
                              have HP := HPc
                              have BB := BC
                              have HG := HGc
                              clear HPc BC HGc
                              refine anyB_one (i := 13) (by kernel_rfl) rfl rfl ?_
                              intro wj hbj K hK
                              replace HP := Lib.hid (HP.out.trans (hbj.mono HP.out.size))
                              (try replace HMo := Lib.hid (ms_kept HMo.out hbj))
                              (try replace HRo := Lib.hid (ods_kept HRo.out hbj))
                              (try replace BB := Lib.hid (BB.out.kept hbj))
                              (try replace HG := Lib.hid (ms_kept HG.out hbj))
                              clear hbj
                              go_wp2
                              refine ⟨Ex.of_below HP.out, ?_⟩
                              refine anyB_one (i := 14) (by kernel_rfl) rfl rfl ?_
                              intro wk hbk K hK
                              replace HP := Lib.hid (HP.out.trans (hbk.mono HP.out.size))
                              (try replace HMo := Lib.hid (ms_kept HMo.out hbk))
                              (try replace HRo := Lib.hid (ods_kept HRo.out hbk))
                              (try replace BB := Lib.hid (BB.out.kept hbk))
                              (try replace HG := Lib.hid (ms_kept HG.out hbk))
                              clear hbk
                              go_wp2
                              refine ⟨Ex.of_below HP.out, ?_⟩
                              refine anyB_end (by kernel_rfl) ?_
                              intro wl hbl
                              simp only [Calm]
                              replace HP := Lib.hid (HP.out.trans (hbl.mono HP.out.size))
                              (try replace HMo := Lib.hid (ms_kept HMo.out hbl))
                              (try replace HRo := Lib.hid (ods_kept HRo.out hbl))
                              (try replace BB := Lib.hid (BB.out.kept hbl))
                              (try replace HG := Lib.hid (ms_kept HG.out hbl))
                              clear hbl
                              go_wp2_with fail
                              go_meet
                              case rel => exact ⟨_, g, rfl, rfl, BB.out, HG.out, HP.out⟩
                    · skip
                      intro wha hbha K hK
                      have hsha := hbha.size
                      (try simp at hsha)
                      replace HP := Lib.hid (HP.out.trans (hbha.mono HP.out.size))
                      (try replace HMo := Lib.hid (ms_kept HMo.out hbha))
                      (try replace HRo := Lib.hid (ods_kept HRo.out hbha))
                      (try replace BB := Lib.hid (BB.out.kept hbha))
                      (try replace HG := Lib.hid (ms_kept HG.out hbha))
                      have hbx : Below wha.heap.size wha (wha.alloc (.cells #[.slice none 0 0, .int .i64 0, .int .i64 0, .int .i64 0, .int .i64 0] 36)) := (Below.refl _ _).alloc (Nat.le_refl _) _
                      (try replace HMo := Lib.hid (ms_kept HMo.out hbx))
                      (try replace HRo := Lib.hid (ods_kept HRo.out hbx))
                      (try replace BB := Lib.hid (BB.out.kept hbx))
                      (try replace HG := Lib.hid (ms_kept HG.out hbx))
                      have BB := Lib.hid (Blk.new wha 36 #[.slice none 0 0, .int .i64 0, .int .i64 0, .int .i64 0, .int .i64 0])
                      have hlBB := HP.out.size
                      have HP' := Lib.hid (HP.out.trans (hbx.mono HP.out.size))
                      clear hbha hbx
                      go_wp2
                      (try clear hx_)
                      have hx_ := Ex.of_below (X := []) HP'.out
                      refine ⟨hx_, ?_⟩
                      clear HP
                      have HP := HP'
                      clear HP'
                      generalize wha.heap.size = bBB at *
                      as_aux_lemma =>
                        refine anyB_one (i := 5) (by kernel_rfl) rfl rfl ?_
                        intro wda hbda K hK
                        have hsda := hbda.size
                        (try simp at hsda)
                        replace HP := Lib.hid (HP.out.trans (hbda.mono HP.out.size))
                        (try replace HMo := Lib.hid (ms_kept HMo.out hbda))
                        (try replace HRo := Lib.hid (ods_kept HRo.out hbda))
                        (try replace BB := Lib.hid (BB.out.kept hbda))
                        (try replace HG := Lib.hid (ms_kept HG.out hbda))
                        clear hbda
                        go_wp2_with fail
                        refine (HOk.out _ k hbl2 (HL0.out.trans (HP.out.mono HL0.out.size))).mono ?_
                        rintro e wdb ⟨Ad, cd, rfl, hrd, _, hbdb⟩
                        have hsdb := hbdb.size
                        (try replace HMo := Lib.hid (ms_kept HMo.out hbdb))
                        (try replace HRo := Lib.hid (ods_kept HRo.out hbdb))
                        (try replace BB := Lib.hid (BB.out.kept hbdb))
                        (try replace HG := Lib.hid (ms_kept HG.out hbdb))
                        have HRo := Lib.hid hrd; clear hrd
                        replace HP := Lib.hid (HP.out.trans (hbdb.mono HP.out.size))
                        clear hbdb
                        go_wp2
                        (try clear hx_)
                        have hx_ := Ex.of_below (X := []) HP.out
                        refine ⟨hx_, ?_⟩
                        as_aux_lemma =>
                          refine anyB_one (i := 6) (by kernel_rfl) rfl rfl ?_
                          intro wfa hbfa K hK
                          have hsfa := hbfa.size
                          (try simp at hsfa)
                          replace HP := Lib.hid (HP.out.trans (hbfa.mono HP.out.size))
                          (try replace HMo := Lib.hid (ms_kept HMo.out hbfa))
                          (try replace HRo := Lib.hid (ods_kept HRo.out hbfa))
                          (try replace BB := Lib.hid (BB.out.kept hbfa))
                          (try replace HG := Lib.hid (ms_kept HG.out hbfa))
                          clear hbfa
                          go_wp2_with fail
                          refine (HRk.out _ _ _ _ _ HMo.out HCo.out HRo.out).mono ?_
                          rintro e wfb ⟨g, rfl, hg, hbfb⟩
                          have hsfb := hbfb.size
                          (try replace HMo := Lib.hid (ms_kept HMo.out hbfb))
                          (try replace HRo := Lib.hid (ods_kept HRo.out hbfb))
                          (try replace BB := Lib.hid (BB.out.kept hbfb))
                          (try replace HG := Lib.hid (ms_kept HG.out hbfb))
                          have HG : Hid (MsAt wfb wfb.heap.size (some ⟨g, 0, none⟩) n b.m) := Lib.hid ((BlkArm.at (b := b) hg HBl.out).more (Blk.lt hg)); clear hg HMo HRo
                          replace HP := Lib.hid (HP.out.trans (hbfb.mono HP.out.size))
                          clear hbfb
                          go_wp2
                          (try clear hx_)
                          have hx_ := Ex.of_below (X := []) HP.out
                          refine ⟨hx_, ?_⟩
                          as_aux_lemma =>
                            (refine anyB_quiet_at (by kernel_rfl) calm_panic xs_ 3 [7, 8, 9, 10] _ _ (by kernel_rfl) (by decide +kernel) ?_; simp only [pickB, List.filterMap_cons, List.filterMap_nil, List.getElem?_toArray, List.getElem?_cons_zero, List.getElem?_cons_succ]; (repeat (first | ((first | (with_reducible refine quietL_plain rfl (fun K hK => ?_)) | (with_reducible refine quietL_want (by with_unfolding_all rfl) (fun K hK => ?_))); (apply Exists.intro; refine ⟨fun wx hx => ?_, ?_⟩; (· (have hcx := ifs_ex hx); simp [go_sem, *, ↓IntWalk.iteOmega] <;> (first | rfl | exact ⟨rfl, rfl⟩ | fail)); (simp only [Act.put, List.setIfInBounds_toArray, List.set_cons_zero, List.set_cons_succ]; refine hK _ ?_; clear hK K))) | ((with_reducible refine quietL_skip (by with_unfolding_all rfl) ?_); simp only [Act.put, List.setIfInBounds_toArray, List.set_cons_zero, List.set_cons_succ]))); refine quietL_nil ?_)
                            refine anyB_one (i := 12) (by kernel_rfl) rfl rfl ?_
                            intro wi hbi K hK
                            replace HP := Lib.hid (HP.out.trans (hbi.mono HP.out.size))
                            (try replace HMo := Lib.hid (ms_kept HMo.out hbi))
                            (try replace HRo := Lib.hid (ods_kept HRo.out hbi))
                            (try replace BB := Lib.hid (BB.out.kept hbi))
                            (try replace HG := Lib.hid (ms_kept HG.out hbi))
                            have cB := BB.out.cell
                            have fB := BB.out.frozen
                            have lB := BB.out.lt
                            go_wp2
                            have BC := Lib.hid (put5_blk (v0 := .slice (some ⟨g, 0, none⟩) n n) (v1 := .int .i64 a.lo) (v2 := .int .i64 a.hi) (v3 := .int .i64 a.cur) (v4 := .int .i64 a.lim) BB.out)
                            have HPc := Lib.hid (put5_low (v0 := .slice (some ⟨g, 0, none⟩) n n) (v1 := .int .i64 a.lo) (v2 := .int .i64 a.hi) (v3 := .int .i64 a.cur) (v4 := .int .i64 a.lim) HP.out hlBB)
                            have HGc := Lib.hid (ms_put5 (v0 := .slice (some ⟨g, 0, none⟩) n n) (v1 := .int .i64 a.lo) (v2 := .int .i64 a.hi) (v3 := .int .i64 a.cur) (v4 := .int .i64 a.lim) HG.out BB.out)
                            refine ⟨Ex.of_below HPc.out, ?_⟩
                            clear cB fB lB HP BB HG hbi
                            have HP := HPc
                            have BB := BC
                            have HG := HGc
                            clear HPc BC HGc
                            refine anyB_one (i := 13) (by kernel_rfl) rfl rfl ?_
                            intro wj hbj K hK
                            replace HP := Lib.hid (HP.out.trans (hbj.mono HP.out.size))
                            (try replace HMo := Lib.hid (ms_kept HMo.out hbj))
                            (try replace HRo := Lib.hid (ods_kept HRo.out hbj))
                            (try replace BB := Lib.hid (BB.out.kept hbj))
                            (try replace HG := Lib.hid (ms_kept HG.out hbj))
                            clear hbj
                            go_wp2
                            refine ⟨Ex.of_below HP.out, ?_⟩
                            refine anyB_one (i := 14) (by kernel_rfl) rfl rfl ?_
                            intro wk hbk K hK
                            replace HP := Lib.hid (HP.out.trans (hbk.mono HP.out.size))
                            (try replace HMo := Lib.hid (ms_kept HMo.out hbk))
                            (try replace HRo := Lib.hid (ods_kept HRo.out hbk))
                            (try replace BB := Lib.hid (BB.out.kept hbk))
                            (try replace HG := Lib.hid (ms_kept HG.out hbk))
                            clear hbk
                            go_wp2
                            refine ⟨Ex.of_below HP.out, ?_⟩
                            refine anyB_end (by kernel_rfl) ?_
                            intro wl hbl
                            simp only [Calm]
                            replace HP := Lib.hid (HP.out.trans (hbl.mono HP.out.size))
                            (try replace HMo := Lib.hid (ms_kept HMo.out hbl))
                            (try replace HRo := Lib.hid (ods_kept HRo.out hbl))
                            (try replace BB := Lib.hid (BB.out.kept hbl))
                            (try replace HG := Lib.hid (ms_kept HG.out hbl))
                            clear hbl
                            go_wp2_with fail
                            go_meet
                            case rel => exact ⟨_, g, rfl, rfl, BB.out, HG.out, HP.out⟩
              · skip
                as_aux_lemma =>
                  intro wha hbha K hK
                  have hsha := hbha.size
                  (try simp at hsha)
                  replace HP := Lib.hid (HP.out.trans (hbha.mono HP.out.size))
                  (try replace HMo := Lib.hid (ms_kept HMo.out hbha))
                  (try replace HRo := Lib.hid (ods_kept HRo.out hbha))
                  (try replace BB := Lib.hid (BB.out.kept hbha))
                  (try replace HG := Lib.hid (ms_kept HG.out hbha))
                  have hbx : Below wha.heap.size wha (wha.alloc (.cells #[.slice none 0 0, .int .i64 0, .int .i64 0, .int .i64 0, .int .i64 0] 36)) := (Below.refl _ _).alloc (Nat.le_refl _) _
                  (try replace HMo := Lib.hid (ms_kept HMo.out hbx))
                  (try replace HRo := Lib.hid (ods_kept HRo.out hbx))
                  (try replace BB := Lib.hid (BB.out.kept hbx))
                  (try replace HG := Lib.hid (ms_kept HG.out hbx))
                  have BB := Lib.hid (Blk.new wha 36 #[.slice none 0 0, .int .i64 0, .int .i64 0, .int .i64 0, .int .i64 0])
                  have hlBB := HP.out.size
                  have HP' := Lib.hid (HP.out.trans (hbx.mono HP.out.size))
                  clear hbha hbx
                  go_wp2
                  (try clear hx_)
                  have hx_ := Ex.of_below (X := []) HP'.out
                  refine ⟨hx_, ?_⟩
                  clear HP
                  have HP := HP'
                  clear HP'
                  generalize wha.heap.size = bBB at *
                  as_aux_lemma =>
                    refine anyB_one (i := 1) (by kernel_rfl) rfl rfl ?_
                    intro wca hbca K hK
                    have hsca := hbca.size
                    (try simp at hsca)
                    replace HP := Lib.hid (HP.out.trans (hbca.mono HP.out.size))
                    (try replace HMo := Lib.hid (ms_kept HMo.out hbca))
                    (try replace HRo := Lib.hid (ods_kept HRo.out hbca))
                    (try replace BB := Lib.hid (BB.out.kept hbca))
                    (try replace HG := Lib.hid (ms_kept HG.out hbca))
                    clear hbca
                    go_wp2_with fail
                    refine (HOw.out _ (HL0.out.trans (HP.out.mono HL0.out.size))).mono ?_
                    rintro e wcb ⟨Ao, co, rfl, hm, hc, hbcb⟩
                    have hscb := hbcb.size
                    (try replace HMo := Lib.hid (ms_kept HMo.out hbcb))
                    (try replace HRo := Lib.hid (ods_kept HRo.out hbcb))
                    (try replace BB := Lib.hid (BB.out.kept hbcb))
                    (try replace HG := Lib.hid (ms_kept HG.out hbcb))
                    have HMo := Lib.hid hm; have HCo := Lib.hid hc; clear hm hc
                    replace HP := Lib.hid (HP.out.trans (hbcb.mono HP.out.size))
                    clear hbcb
                    go_wp2
                    (try clear hx_)
                    have hx_ := Ex.of_below (X := []) HP.out
                    refine ⟨hx_, ?_⟩
                    as_aux_lemma =>
                      refine anyB_one (i := 5) (by kernel_rfl) rfl rfl ?_
                      intro wda hbda K hK
                      have hsda := hbda.size
                      (try simp at hsda)
                      replace HP := Lib.hid (HP.out.trans (hbda.mono HP.out.size))
                      (try replace HMo := Lib.hid (ms_kept HMo.out hbda))
                      (try replace HRo := Lib.hid (ods_kept HRo.out hbda))
                      (try replace BB := Lib.hid (BB.out.kept hbda))
                      (try replace HG := Lib.hid (ms_kept HG.out hbda))
                      clear hbda
                      go_wp2_with fail
                      refine (HOk.out _ k hbl2 (HL0.out.trans (HP.out.mono HL0.out.size))).mono ?_
                      rintro e wdb ⟨Ad, cd, rfl, hrd, _, hbdb⟩
                      have hsdb := hbdb.size
                      (try replace HMo := Lib.hid (ms_kept HMo.out hbdb))
                      (try replace HRo := Lib.hid (ods_kept HRo.out hbdb))
                      (try replace BB := Lib.hid (BB.out.kept hbdb))
                      (try replace HG := Lib.hid (ms_kept HG.out hbdb))
                      have HRo := Lib.hid hrd; clear hrd
                      replace HP := Lib.hid (HP.out.trans (hbdb.mono HP.out.size))
                      clear hbdb
                      go_wp2
                      (try clear hx_)
                      have hx_ := Ex.of_below (X := []) HP.out
                      refine ⟨hx_, ?_⟩
                      as_aux_lemma =>
                        refine anyB_one (i := 6) (by kernel_rfl) rfl rfl ?_
                        intro wfa hbfa K hK
                        have hsfa := hbfa.size
                        (try simp at hsfa)
                        replace HP := Lib.hid (HP.out.trans (hbfa.mono HP.out.size))
                        (try replace HMo := Lib.hid (ms_kept HMo.out hbfa))
                        (try replace HRo := Lib.hid (ods_kept HRo.out hbfa))
                        (try replace BB := Lib.hid (BB.out.kept hbfa))
                        (try replace HG := Lib.hid (ms_kept HG.out hbfa))
                        clear hbfa
                        go_wp2_with fail
                        refine (HRk.out _ _ _ _ _ HMo.out HCo.out HRo.out).mono ?_
                        rintro e wfb ⟨g, rfl, hg, hbfb⟩
                        have hsfb := hbfb.size
                        (try replace HMo := Lib.hid (ms_kept HMo.out hbfb))
                        (try replace HRo := Lib.hid (ods_kept HRo.out hbfb))
                        (try replace BB := Lib.hid (BB.out.kept hbfb))
                        (try replace HG := Lib.hid (ms_kept HG.out hbfb))
                        have HG : Hid (MsAt wfb wfb.heap.size (some ⟨g, 0, none⟩) n b.m) := Lib.hid ((BlkArm.at (b := b) hg HBl.out).more (Blk.lt hg)); clear hg HMo HRo
                        replace HP := Lib.hid (HP.out.trans (hbfb.mono HP.out.size))
                        clear hbfb
                        go_wp2
                        (try clear hx_)
                        have hx_ := Ex.of_below (X := []) HP.out
                        refine ⟨hx_, ?_⟩
                        as_aux_lemma =>
                          (refine anyB_quiet_at (by kernel_rfl) calm_panic xs_ 3 [7, 8, 9, 10] _ _ (by kernel_rfl) (by decide +kernel) ?_; simp only [pickB, List.filterMap_cons, List.filterMap_nil, List.getElem?_toArray, List.getElem?_cons_zero, List.getElem?_cons_succ]; (repeat (first | ((first | (with_reducible refine quietL_plain rfl (fun K hK => ?_)) | (with_reducible refine quietL_want (by with_unfolding_all rfl) (fun K hK => ?_))); (apply Exists.intro; refine ⟨fun wx hx => ?_, ?_⟩; (· (have hcx := ifs_ex hx); simp [go_sem, *, ↓IntWalk.iteOmega] <;> (first | rfl | exact ⟨rfl, rfl⟩ | fail)); (simp only [Act.put, List.setIfInBounds_toArray, List.set_cons_zero, List.set_cons_succ]; refine hK _ ?_; clear hK K))) | ((with_reducible refine quietL_skip (by with_unfolding_all rfl) ?_); simp only [Act.put, List.setIfInBounds_toArray, List.set_cons_zero, List.set_cons_succ]))); refine quietL_nil ?_)
                          refine anyB_one (i := 12) (by kernel_rfl) rfl rfl ?_
                          intro wi hbi K hK
                          replace HP := Lib.hid (HP.out.trans (hbi.mono HP.out.size))
                          (try replace HMo := Lib.hid (ms_kept HMo.out hbi))
                          (try replace HRo := Lib.hid (ods_kept HRo.out hbi))
                          (try replace BB := Lib.hid (BB.out.kept hbi))
                          (try replace HG := Lib.hid (ms_kept HG.out hbi))
                          have cB := BB.out.cell
                          have fB := BB.out.frozen
                          have lB := BB.out.lt
                          go_wp2
                          have BC := Lib.hid (put5_blk (v0 := .slice (some ⟨g, 0, none⟩) n n) (v1 := .int .i64 a.lo) (v2 := .int .i64 a.hi) (v3 := .int .i64 a.cur) (v4 := .int .i64 a.lim) BB.out)
                          have HPc := Lib.hid (put5_low (v0 := .slice (some ⟨g, 0, none⟩) n n) (v1 := .int .i64 a.lo) (v2 := .int .i64 a.hi) (v3 := .int .i64 a.cur) (v4 := .int .i64 a.lim) HP.out hlBB)
                          have HGc := Lib.hid (ms_put5 (v0 := .slice (some ⟨g, 0, none⟩) n n) (v1 := .int .i64 a.lo) (v2 := .int .i64 a.hi) (v3 := .int .i64 a.cur) (v4 := .int .i64 a.lim) HG.out BB.out)
                          refine ⟨Ex.of_below HPc.out, ?_⟩
                          clear cB fB lB HP BB HG hbi
                          have HP := HPc
                          have BB := BC
                          have HG := HGc
                          clear HPc BC HGc
                          refine anyB_one (i := 13) (by kernel_rfl) rfl rfl ?_
                          intro wj hbj K hK
                          replace HP := Lib.hid (HP.out.trans (hbj.mono HP.out.size))
                          (try replace HMo := Lib.hid (ms_kept HMo.out hbj))
                          (try replace HRo := Lib.hid (ods_kept HRo.out hbj))
                          (try replace BB := Lib.hid (BB.out.kept hbj))
                          (try replace HG := Lib.hid (ms_kept HG.out hbj))
                          clear hbj
                          go_wp2
                          refine ⟨Ex.of_below HP.out, ?_⟩
                          refine anyB_one (i := 14) (by kernel_rfl) rfl rfl ?_
                          intro wk hbk K hK
                          replace HP := Lib.hid (HP.out.trans (hbk.mono HP.out.size))
                          (try replace HMo := Lib.hid (ms_kept HMo.out hbk))
                          (try replace HRo := Lib.hid (ods_kept HRo.out hbk))
                          (try replace BB := Lib.hid (BB.out.kept hbk))
                          (try replace HG := Lib.hid (ms_kept HG.out hbk))
                          clear hbk
                          go_wp2
                          refine ⟨Ex.of_below HP.out, ?_⟩
                          refine anyB_end (by kernel_rfl) ?_
                          intro wl hbl
                          simp only [Calm]
                          replace HP := Lib.hid (HP.out.trans (hbl.mono HP.out.size))
                          (try replace HMo := Lib.hid (ms_kept HMo.out hbl))
                          (try replace HRo := Lib.hid (ods_kept HRo.out hbl))
                          (try replace BB := Lib.hid (BB.out.kept hbl))
                          (try replace HG := Lib.hid (ms_kept HG.out hbl))
                          clear hbl
                          go_wp2_with fail
                          go_meet
                          case rel => exact ⟨_, g, rfl, rfl, BB.out, HG.out, HP.out⟩
        rename World => W1
        obtain ⟨pb, g, rfl, rfl, hpb, hgm, hb⟩ := hcut
        have HL1 := Lib.hid (HL0.out.trans (hb.mono HL0.out.size))
        have HPb := Lib.hid hpb
        have HGm := Lib.hid hgm
        clear hpb hgm hb cHA lHA HA0 HL0 HRk HOw HOd HOk
        have cPb := HPb.out.cell
        have lPb := HPb.out.lt
        obtain ⟨bo, oo, eo, hbo, y0, y1⟩ := (od_at (HOs.out.below HL1.out)).2 k HHk.out
        rw [HHo.out] at y0 y1
        have hbow : bo < W1.heap.size := Nat.lt_of_lt_of_le hbo HL1.out.size
        have hkI : (k : Int) < (n2 : Int) := by omega
        obtain ⟨on, oc⟩ := o
        dsimp only at y0 y1
        subst eo
        go_upto_region 11 with fail
        go_cut [14] (fun s14 wx => s14 = .int .i64 er ∧ Below W1.heap.size W1 wx)
        case first =>
          as_aux_lemma =>
            go_wp2_with fail
            have HP := Lib.hid (Below.refl W1.heap.size W1)
            (refine wp_region_calm [] [0, 1, 2, 3, 4] 7 (by kernel_rfl) rfl (by kernel_rfl) (by kernel_rfl) (by kernel_rfl) ?_; simp only [pickB, List.filterMap_cons, List.filterMap_nil, List.getElem?_toArray, List.getElem?_cons_zero, List.getElem?_cons_succ]; (repeat (first | ((first | (with_reducible refine quietL_plain rfl (fun K hK => ?_)) | (with_reducible refine quietL_want (by with_unfolding_all rfl) (fun K hK => ?_))); (apply Exists.intro; refine ⟨fun wx hx => ?_, ?_⟩; (· (have hcx := ifs_ex hx); simp [go_sem, *, ↓IntWalk.iteOmega] <;> (first | rfl | exact ⟨rfl, rfl⟩ | skip)); (simp only [Act.put, List.setIfInBounds_toArray, List.set_cons_zero, List.set_cons_succ]; refine hK _ ?_; clear hK K))) | ((with_reducible refine quietL_skip (by with_unfolding_all rfl) ?_); simp only [Act.put, List.setIfInBounds_toArray, List.set_cons_zero, List.set_cons_succ]))); refine quietL_nil ?_)
            as_aux_lemma =>
              refine anyB_two (i := 5) (j := 9) (by kernel_rfl) rfl rfl rfl rfl ?_ ?_
              · skip
                as_aux_lemma =>
                  intro wca hbca K hK
                  have hsca := hbca.size
                  (try simp at hsca)
                  replace HP := Lib.hid (HP.out.trans (hbca.mono HP.out.size))
                  (try replace BB := Lib.hid (BB.out.kept hbca))
                  clear hbca
                  go_wp2_with fail
                  refine (HSt.out _ _ _ (ms_kept HGm.out HP.out) (Nat.le_refl _)).mono ?_
                  rintro e wcb ⟨rfl, hbcb⟩
                  have hscb := hbcb.size
                  (try replace BB := Lib.hid (BB.out.kept hbcb))
                  skip
                  replace HP := Lib.hid (HP.out.trans (hbcb.mono HP.out.size))
                  clear hbcb
                  go_wp2
                  (try clear hx_)
                  have hx_ := Ex.of_below (X := []) HP.out
                  refine ⟨hx_, ?_⟩
                  as_aux_lemma =>
                    (refine anyB_quiet_at (by kernel_rfl) calm_panic xs_ 3 [6, 7, 8] _ _ (by kernel_rfl) (by decide +kernel) ?_; simp only [pickB, List.filterMap_cons, List.filterMap_nil, List.getElem?_toArray, List.getElem?_cons_zero, List.getElem?_cons_succ]; (repeat (first | ((first | (with_reducible refine quietL_plain rfl (fun K hK => ?_)) | (with_reducible refine quietL_want (by with_unfolding_all rfl) (fun K hK => ?_))); (apply Exists.intro; refine ⟨fun wx hx => ?_, ?_⟩; (· (have hcx := ifs_ex hx); simp [go_sem, *, ↓IntWalk.iteOmega] <;> (first | rfl | exact ⟨rfl, rfl⟩ | fail)); (simp only [Act.put, List.setIfInBounds_toArray, List.set_cons_zero, List.set_cons_succ]; refine hK _ ?_; clear hK K))) | ((with_reducible refine quietL_skip (by with_unfolding_all rfl) ?_); simp only [Act.put, List.setIfInBounds_toArray, List.set_cons_zero, List.set_cons_succ]))); refine quietL_nil ?_)
                    refine anyB_one (i := 9) (by kernel_rfl) rfl rfl ?_
                    intro wha hbha K hK
                    have hsha := hbha.size
                    (try simp at hsha)
                    replace HP := Lib.hid (HP.out.trans (hbha.mono HP.out.size))
                    (try replace BB := Lib.hid (BB.out.kept hbha))
                    have hbx : Below wha.heap.size wha (wha.alloc (.cells #[.slice none 0 0, .int .i64 0, .int .i64 0, .int .i64 0, .int .i64 0] 36)) := (Below.refl _ _).alloc (Nat.le_refl _) _
                    (try replace BB := Lib.hid (BB.out.kept hbx))
                    have BB := Lib.hid (Blk.new wha 36 #[.slice none 0 0, .int .i64 0, .int .i64 0, .int .i64 0, .int .i64 0])
                    have hlBB := HP.out.size
                    have HP' := Lib.hid (HP.out.trans (hbx.mono HP.out.size))
                    clear hbha hbx
                    go_wp2
                    (try clear hx_)
                    have hx_ := Ex.of_below (X := []) HP'.out
                    refine ⟨hx_, ?_⟩
                    clear HP
                    have HP := HP'
                    clear HP'
                    generalize wha.heap.size = bBB at *
                    as_aux_lemma =>
                      refine anyB_one (i := 10) (by kernel_rfl) rfl rfl ?_
                      intro wi hbi K hK
                      replace HP := Lib.hid (HP.out.trans (hbi.mono HP.out.size))
                      replace BB := Lib.hid (BB.out.kept hbi)
                      have cB := BB.out.cell
                      have fB := BB.out.frozen
                      have lB := BB.out.lt
                      go_wp2
                      have HPc := Lib.hid (put5_low (v0 := .slice none 0 0) (v1 := .int .i64 0) (v2 := .int .i64 0) (v3 := .int .i64 0) (v4 := .int .i64 0) HP.out hlBB)
                      refine ⟨Ex.of_below HPc.out, ?_⟩
                      clear cB fB lB HP BB hbi
                      have HP := HPc
                      clear HPc
                      refine anyB_one (i := 11) (by kernel_rfl) rfl rfl ?_
                      intro wj hbj K hK
                      replace HP := Lib.hid (HP.out.trans (hbj.mono HP.out.size))
                      clear hbj
                      go_wp2
                      refine ⟨Ex.of_below HP.out, ?_⟩
                      refine anyB_end (by kernel_rfl) ?_
                      intro wl hbl
                      simp only [Calm]
                      replace HP := Lib.hid (HP.out.trans (hbl.mono HP.out.size))
                      clear hbl
                      go_wp2_with fail
                      go_meet
                      case rel => exact ⟨rfl, HP.out⟩
              · skip
                as_aux_lemma =>
                  intro wha hbha K hK
                  have hsha := hbha.size
                  (try simp at hsha)
                  replace HP := Lib.hid (HP.out.trans (hbha.mono HP.out.size))
                  (try replace BB := Lib.hid (BB.out.kept hbha))
                  have hbx : Below wha.heap.size wha (wha.alloc (.cells #[.slice none 0 0, .int .i64 0, .int .i64 0, .int .i64 0, .int .i64 0] 36)) := (Below.refl _ _).alloc (Nat.le_refl _) _
                  (try replace BB := Lib.hid (BB.out.kept hbx))
                  have BB := Lib.hid (Blk.new wha 36 #[.slice none 0 0, .int .i64 0, .int .i64 0, .int .i64 0, .int .i64 0])
                  have hlBB := HP.out.size
                  have HP' := Lib.hid (HP.out.trans (hbx.mono HP.out.size))
                  clear hbha hbx
                  go_wp2
                  (try clear hx_)
                  have hx_ := Ex.of_below (X := []) HP'.out
                  refine ⟨hx_, ?_⟩
                  clear HP
                  have HP := HP'
                  clear HP'
                  generalize wha.heap.size = bBB at *
                  as_aux_lemma =>
                    refine anyB_one (i := 5) (by kernel_rfl) rfl rfl ?_
                    intro wca hbca K hK
                    have hsca := hbca.size
                    (try simp at hsca)
                    replace HP := Lib.hid (HP.out.trans (hbca.mono HP.out.size))
                    (try replace BB := Lib.hid (BB.out.kept hbca))
                    clear hbca
                    go_wp2_with fail
                    refine (HSt.out _ _ _ (ms_kept HGm.out HP.out) (Nat.le_refl _)).mono ?_
                    rintro e wcb ⟨rfl, hbcb⟩
                    have hscb := hbcb.size
                    (try replace BB := Lib.hid (BB.out.kept hbcb))
                    skip
                    replace HP := Lib.hid (HP.out.trans (hbcb.mono HP.out.size))
                    clear hbcb
                    go_wp2
                    (try clear hx_)
                    have hx_ := Ex.of_below (X := []) HP.out
                    refine ⟨hx_, ?_⟩
                    as_aux_lemma =>
                      (refine anyB_quiet_at (by kernel_rfl) calm_panic xs_ 2 [6, 7, 8] _ _ (by kernel_rfl) (by decide +kernel) ?_; simp only [pickB, List.filterMap_cons, List.filterMap_nil, List.getElem?_toArray, List.getElem?_cons_zero, List.getElem?_cons_succ]; (repeat (first | ((first | (with_reducible refine quietL_plain rfl (fun K hK => ?_)) | (with_reducible refine quietL_want (by with_unfolding_all rfl) (fun K hK => ?_))); (apply Exists.intro; refine ⟨fun wx hx => ?_, ?_⟩; (· (have hcx := ifs_ex hx); simp [go_sem, *, ↓IntWalk.iteOmega] <;> (first | rfl | exact ⟨rfl, rfl⟩ | fail)); (simp only [Act.put, List.setIfInBounds_toArray, List.set_cons_zero, List.set_cons_succ]; refine hK _ ?_; clear hK K))) | ((with_reducible refine quietL_skip (by with_unfolding_all rfl) ?_); simp only [Act.put, List.setIfInBounds_toArray, List.set_cons_zero, List.set_cons_succ]))); refine quietL_nil ?_)
                      refine anyB_one (i := 10) (by kernel_rfl) rfl rfl ?_
                      intro wi hbi K hK
                      replace HP := Lib.hid (HP.out.trans (hbi.mono HP.out.size))
                      replace BB := Lib.hid (BB.out.kept hbi)
                      have cB := BB.out.cell
                      have fB := BB.out.frozen
                      have lB := BB.out.lt
                      go_wp2
                      have HPc := Lib.hid (put5_low (v0 := .slice none 0 0) (v1 := .int .i64 0) (v2 := .int .i64 0) (v3 := .int .i64 0) (v4 := .int .i64 0) HP.out hlBB)
                      refine ⟨Ex.of_below HPc.out, ?_⟩
                      clear cB fB lB HP BB hbi
                      have HP := HPc
                      clear HPc
                      refine anyB_one (i := 11) (by kernel_rfl) rfl rfl ?_
                      intro wj hbj K hK
                      replace HP := Lib.hid (HP.out.trans (hbj.mono HP.out.size))
                      clear hbj
                      go_wp2
                      refine ⟨Ex.of_below HP.out, ?_⟩
                      refine anyB_end (by kernel_rfl) ?_
                      intro wl hbl
                      simp only [Calm]
                      replace HP := Lib.hid (HP.out.trans (hbl.mono HP.out.size))
                      clear hbl
                      go_wp2_with fail
                      go_meet
                      case rel => exact ⟨rfl, HP.out⟩
        rename World => W2
        obtain ⟨rfl, hb⟩ := hcut
        have HL2 := Lib.hid (HL1.out.trans (hb.mono HL1.out.size))
        clear hb cPb lPb
        go_wp2_with fail
        go_ret
        exact ⟨by first | rfl | (simp; done), HL2.out⟩
    case inl =>
      as_aux_lemma =>
        obtain ⟨hEb, hS4⟩ := goTo_ok hE ho hgo
        have hwk0 : wrkE a l = 0 := by unfold wrkE; rw [hOE, fol_all hgo, or0_yes]
        have hlv0 : logV a l = logL a l := by unfold logV; rw [if_pos hwk0]
        have hll : (logL a l).length = n2 := by
          have := recL_len a l
          unfold recL at this
          rw [List.length_cons] at this
          omega
        have HLg := Lib.hid (fun W A A3 c c3 (hm : MsAt W W.heap.size A n a.m) (hc : n ≤ c) (hr : Reads W W.heap.size 2 A3 n2 (ods l)) => (Log_any W.heap.size W.heap.size A A3 n c n2 c3 a l W hm (Nat.le_refl _) hF hc hr (Nat.le_refl _) hq2).mono (fun e w' h => log_ok (by rw [← hwk0, ← hlv0]; exact h) hll))
        have HNa := Lib.hid (fun W A c (hm : MsAt W W.heap.size A n a.m) (hc : n ≤ c) => Energy_any W.heap.size A n c a W hm (Nat.le_refl _) hF hc hE)
        have HWk := Lib.hid (fun W k (hk : k ≤ n2) A A3 c c3 (hm : MsAt W W.heap.size A n a.m) (hc : n ≤ c) (hr : Reads W W.heap.size 2 A3 k (ods (l.take k))) => Work_any W.heap.size W.heap.size A A3 n c k c3 a (l.take k) W hm (Nat.le_refl _) hF hc hr (Nat.le_refl _) (by omega))
        have HGo := Lib.hid hgo
        have HLl := Lib.hid hll
        have hnn : (n2 != n2) = false := by simp
        have hn1 : ¬ ((n : Int) < 0) := by omega
        clear hM hnm hO hF hsh hro hE ho hOE hl hl2 hgo hEb hS4 hwk0 hlv0 hll
        go_enter Tryz.func3, Tryz.ntmps3
        go_wp2_with fail
        refine (HAw.out _ bl_).mono ?_
        rintro e w1 ⟨rfl, hb⟩
        have HA : Hid (Blk w1 (w.heap.size) 26 #[.slice A n c, .int .i64 a.lo, .int .i64 a.hi, .int .i64 a.cur, .int .i64 a.lim]) := Lib.hid bk_
        have HL : Hid (Below w.heap.size w w1) := Lib.hid bl_
        have hs1 := HL.out.size
        clear hb
        have cHA := HA.out.cell
        have lHA := HA.out.lt
        go_wp2_with fail
        refine (HFi.out _ HL.out).mono ?_
        rintro e w2 ⟨rfl, hb⟩
        clear cHA lHA
        have hs2 := hb.size
        have HL' := Lib.hid (HL.out.trans (hb.mono HL.out.size)); clear HL; have HL := HL'; clear HL'
        have HA' := Lib.hid (HA.out.kept hb); clear HA; have HA := HA'; clear HA'
        clear hb
        have cHA := HA.out.cell
        have lHA := HA.out.lt
        go_wp2_with fail
        refine (HOw.out _ HL.out).mono ?_
        rintro e w3 ⟨A3, c3, rfl, hm, hc, hb⟩
        have HM3 := Lib.hid hm; have HC3 := Lib.hid hc; clear hm hc
        clear cHA lHA
        have hs3 := hb.size
        have HL' := Lib.hid (HL.out.trans (hb.mono HL.out.size)); clear HL; have HL := HL'; clear HL'
        have HA' := Lib.hid (HA.out.kept hb); clear HA; have HA := HA'; clear HA'
        clear hb
        have cHA := HA.out.cell
        have lHA := HA.out.lt
        go_wp2_with fail
        refine (HOd.out _ HL.out).mono ?_
        rintro e w4 ⟨A4, c4, rfl, hrd, _, hb⟩
        have HR4 := Lib.hid hrd; clear hrd; have HM32 := Lib.hid (ms_kept HM3.out hb); clear HM3
        clear cHA lHA
        have hs4 := hb.size
        have HL' := Lib.hid (HL.out.trans (hb.mono HL.out.size)); clear HL; have HL := HL'; clear HL'
        have HA' := Lib.hid (HA.out.kept hb); clear HA; have HA := HA'; clear HA'
        clear hb
        have cHA := HA.out.cell
        have lHA := HA.out.lt
        go_wp2_with fail
        refine (HLg.out _ _ _ _ _ HM32.out HC3.out HR4.out).mono ?_
        rintro e w5 ⟨Al, cl, vl, rfl, hlg, hb⟩
        clear HM32 HC3 HR4 HLg
        have HLs := Lib.hid hlg
        clear hlg
        generalize w4.heap.size = bs at HLs
        clear cHA lHA
        have hs5 := hb.size
        have HL' := Lib.hid (HL.out.trans (hb.mono HL.out.size)); clear HL; have HL := HL'; clear HL'
        have HA' := Lib.hid (HA.out.kept hb); clear HA; have HA := HA'; clear HA'
        clear hb
        have cHA := HA.out.cell
        have lHA := HA.out.lt
        go_upto_region 15 with fail
        refine wp_world ?_
        intro W0 hW0
        have hb0 : Below w5.heap.size w5 W0 := by rw [hW0]; exact bl_
        have HL0 := Lib.hid (HL.out.trans (hb0.mono HL.out.size))
        have HI : Hid (RcI w A A2 n c n2 a l Al cl vl bs W0) := Lib.hid ⟨HA.out.kept hb0, (HMs.out.below HL0.out).more HL0.out.size, (HOs.out.below HL0.out).more HL0.out.size, HLs.out.kept hb0, HL0.out⟩
        clear hW0 hb0 cHA lHA HA HL HLs HL0
        have cA := HI.out.bA.cell
        have lA := HI.out.bA.lt
        go_upto_block 0 with fail
        go_cut [15] (fun s15 wx => ∃ v vs, s15 = v ∧ LgS W0.heap.size v vs (recs a l n) wx ∧ Below W0.heap.size W0 wx)
        case first =>
          as_aux_lemma =>
            go_wp2_with fail
            go_loopw [15, 111] (fun s15 s111 wr => ∃ (q : Nat) (v : Value) (vs : List Value), q ≤ n ∧ s111 = .int .i64 (q : Int) ∧ s15 = v ∧ LgS W0.heap.size v vs (recs a l q) wr ∧ Below W0.heap.size W0 wr) (fun _ s111 _ => n - (intOf s111).toNat)
            case atStart => exact ⟨0, _, [], by omega, rfl, rfl, LgS.nil _ _, Below.refl _ _⟩
            case round =>
              as_aux_lemma =>
                obtain ⟨q, v, vs, hq, rfl, rfl, hlr, hbr⟩ := hrel
                clear cA lA
                have HIr := Lib.hid (HI.out.kept hbr)
                have HBr := Lib.hid hbr
                have HV := Lib.hid hlr
                have hsr := hbr.size
                have cA := HIr.out.bA.cell
                have lA := HIr.out.bA.lt
                clear hbr hlr
                by_cases hlt : q < n
                · skip
                  as_aux_lemma =>
                    have hqa : q < a.m.length := by rw [HEn.out.2.2.2.2.1]; exact hlt
                    have hqn : (q : Int) < (n : Int) := by omega
                    obtain ⟨_, hatA⟩ := md_at HIr.out.rM
                    obtain ⟨ba, oa, ea, hba, z0, z1, z2, z3⟩ := hatA q hqa
                    have HRk := Lib.hid (rec_ok HEn.out.1 HEn.out.2.1 HGo.out (by rw [HEn.out.2.2.2.2.2]; omega) hqa)
                    have HQz := Lib.hid (recQ_zero a l hqa)
                    have HQi := Lib.hid (recQ_in HEn.out.1 HEn.out.2.1 HGo.out q)
                    have HQl : Hid ((recQ a l q).length = n2 + 1) := Lib.hid (by rw [recQ_len, HEn.out.2.2.2.2.2])
                    clear hatA
                    generalize a.m[q] = x at *
                    obtain ⟨xn, xq, xo, xb⟩ := x
                    dsimp only at z0 z1 z2 z3 HRk HQz
                    subst ea
                    go_upto_region 19 with fail
                    refine wp_world ?_
                    intro W1 hW1
                    have hb1 : Below wr.heap.size wr W1 := by rw [hW1]; exact bl_
                    have HX := Lib.hid (show Blk W1 wr.heap.size 48 #[.string xn, .int .i64 xq, .bool xo, .bool xb] from by rw [hW1]; exact Blk.new _ _ _)
                    have hs1 : wr.heap.size + 1 = W1.heap.size := by rw [hW1]; simp
                    have HI1 := Lib.hid (HIr.out.kept hb1)
                    have HV1 := Lib.hid (HV.out.kept hb1)
                    have HB1 := Lib.hid (HBr.out.trans (hb1.mono hsr))
                    clear hW1 hb1 z0 z1 z2 z3 cA lA hba HV HBr HIr
                    have cX := HX.out.cell
                    have lX := HX.out.lt
                    have cA := HI1.out.bA.cell
                    have lA := HI1.out.bA.lt
                    go_wp2_with fail
                    refine (calls_below (Sample_any xq W1)).mono ?_
                    rintro e W2 ⟨rfl, hb2⟩
                    have hs2 := hb2.size
                    have HI2 := Lib.hid (HI1.out.kept hb2)
                    have HX2 := Lib.hid (HX.out.kept hb2)
                    have HB2 := Lib.hid hb2
                    clear cX lX cA lA hb2
                    go_upto_block 2 with fail
                    refine wp_world ?_
                    intro W3 hW3
                    have hb3 : Below W2.heap.size W2 W3 := by rw [hW3]; exact (Below.refl _ _).alloc (Nat.le_refl _) _
                    have hown : W3.ownsRow W1.heap.size 49 1 (.slice (some ⟨W2.heap.size, 0, none⟩) 1 1) 1 (smps ((recQ a l q).take 1)) := by
                      have h1 : smps ((recQ a l q).take 1) = [.float .f32 (smp xq)] := by rw [take_next HQz.out]; rfl
                      rw [h1, hW3]
                      exact Own.new W2 W1.heap.size 49 1 1 #[.float .f32 (smp xq)] hs2 rfl (by unfold maxLen; decide)
                    have HO3 := Lib.hid hown
                    have HB3 := Lib.hid (HB2.out.trans (hb3.mono hs2))
                    have HI3 := Lib.hid (HI2.out.kept hb3)
                    have HX3 := Lib.hid (HX2.out.kept hb3)
                    clear hW3 hown hb3 HI2 HX2 HB2
                    have cX := HX3.out.cell
                    have lX := HX3.out.lt
                    have cA := HI3.out.bA.cell
                    have lA := HI3.out.bA.lt
                    go_cut [18] (fun s18 wx => ∃ v2, s18 = v2 ∧ wx.ownsRow W1.heap.size 49 1 v2 (n2 + 1) (smps (recQ a l q)) ∧ Below W1.heap.size W1 wx)
                    case first =>
                      as_aux_lemma =>
                        go_wp2_with fail
                        go_loopw [18, 122] (fun s18 s122 wr => ∃ (j : Nat) (v2 : Value), j ≤ n2 ∧ s122 = .int .i64 (j : Int) ∧ s18 = v2 ∧ wr.ownsRow W1.heap.size 49 1 v2 (j + 1) (smps ((recQ a l q).take (j + 1))) ∧ Below W1.heap.size W1 wr) (fun _ s122 _ => n2 - (intOf s122).toNat)
                        case atStart => exact ⟨0, _, by omega, rfl, rfl, HO3.out, HB3.out⟩
                        case round =>
                          obtain ⟨j, v2, hj, rfl, rfl, ho2, hb4⟩ := hrel
                          clear cA lA cX lX
                          have HI4 := Lib.hid (HI1.out.kept hb4)
                          have HB4 := Lib.hid hb4
                          have HO4 := Lib.hid ho2
                          have hs4 := hb4.size
                          have cA := HI4.out.bA.cell
                          have lA := HI4.out.bA.lt
                          clear hb4 ho2
                          by_cases hlj : j < n2
                          · skip
                            as_aux_lemma =>
                              have hjl : j < (logL a l).length := by rw [HLl.out]; exact hlj
                              have hjn : (j : Int) < (n2 : Int) := by omega
                              obtain ⟨bl, ol, Au, cu, el, hbl, y0, hru⟩ := HI4.out.lg.at_ HLl.out.symm hjl
                              have hrl : ((logL a l)[j]).length = n := logL_rows HEn.out.2.2.2.2.1 _ (List.getElem_mem hjl)
                              have hqj : q < ((logL a l)[j]).length := by rw [hrl]; exact hlt
                              have hsu := recQ_succ a l hjl hqj
                              have HSn : Hid (smps ((recQ a l q).take (j + 1 + 1)) = smps ((recQ a l q).take (j + 1)) ++ [.float .f32 (smp ((logL a l)[j])[q])]) := Lib.hid (by rw [take_next hsu, smps_snoc])
                              rw [hrl] at y0
                              obtain ⟨bu, ou, u, eu, hbu, hu, y1⟩ := hru.at_ hqj
                              have hu2 : u = .float .f32 (smp ((logL a l)[j])[q]) := by
                                unfold smps at hu
                                rw [List.getElem?_map, List.getElem?_eq_getElem hqj] at hu
                                exact (Option.some.inj hu).symm
                              rw [hu2] at y1
                              generalize ((logL a l)[j])[q] = z at *
                              clear hru hu hu2 hsu hrl hqj hjl
                              subst el
                              subst eu
                              go_wp2_with (at_builtin; refine wpList_app 51 49 1 4 elemF32 rfl (.tmp 132) (.tmp 137) rfl W1.heap.size _ (j + 1) _ rfl HO4.out 1 rfl rfl ?h1 (by decide) ?h3 (by omega) (by omega) ?_)
                              case h1 => rfl
                              case h3 => unfold maxLen; omega
                              intro g' cap' w' hown' hb' hk' hs'
                              have HO5 := Lib.hid hown'
                              have HB5 := Lib.hid (HB4.out.trans hb')
                              clear hown' hb' hk'
                              go_wp2
                              go_roundw
                              case rel => exact ⟨j + 1, _, by omega, by go_num, rfl, by rw [HSn.out]; exact HO5.out, HB5.out⟩
                              case measure => simp [intOf]; omega
                          · obtain rfl : j = n2 := by omega
                            have ho6 := HO4.out
                            rw [List.take_of_length_le (by rw [HQl.out]; exact Nat.le_refl _)] at ho6
                            have HO6 := Lib.hid ho6
                            clear ho6
                            go_wp2_with fail
                            go_meet
                            case rel => exact ⟨_, rfl, HO6.out, HB4.out⟩
                    as_aux_lemma =>
                      rename World => W4
                      obtain ⟨v2, rfl, ho4, hb4⟩ := hcut
                      obtain ⟨A4, c4, rfl, hc4, _, hr4⟩ := own_form ho4
                      rw [smps_map] at hr4
                      have HI4 := Lib.hid (HI1.out.kept hb4)
                      have HX4 := Lib.hid (HX.out.kept hb4)
                      have HV4 := Lib.hid (HV1.out.kept hb4)
                      have HB4 := Lib.hid (HB1.out.trans (hb4.mono (by have := HB1.out.size; omega)))
                      have HR4 := Lib.hid hr4
                      clear cA lA cX lX ho4 hb4 hr4 HI3 HX3 HO3 HB3 HI1 HX HV1 HB1
                      have cX := HX4.out.cell
                      have lX := HX4.out.lt
                      have hv00 : (⟨#[]⟩ : ByteArray) = ⟨#[]⟩ := rfl
                      go_upto_region 27 with fail
                      go_cut [21, 22] (fun s21 s22 wx => ∃ g cap, s21 = .slice (some ⟨g, 0, none⟩) (packB xn.data.toList ((recQ a l q).map smp)).length cap ∧ s22 = .int .i64 0 ∧ Reads wx wx.heap.size 1 (some ⟨g, 0, none⟩) (packB xn.data.toList ((recQ a l q).map smp)).length ((packB xn.data.toList ((recQ a l q).map smp)).map (.int .u8)) ∧ Below W4.heap.size W4 wx)
                      case first =>
                        as_aux_lemma =>
                          go_wp2_with fail
                          have HP := Lib.hid (Below.refl W4.heap.size W4)
                          (refine wp_region_calm [] [0, 1, 3] 9 (by kernel_rfl) rfl (by kernel_rfl) (by kernel_rfl) (by kernel_rfl) ?_; simp only [pickB, List.filterMap_cons, List.filterMap_nil, List.getElem?_toArray, List.getElem?_cons_zero, List.getElem?_cons_succ]; (repeat (first | ((first | (with_reducible refine quietL_plain rfl (fun K hK => ?_)) | (with_reducible refine quietL_want (by with_unfolding_all rfl) (fun K hK => ?_))); (apply Exists.intro; refine ⟨fun wx hx => ?_, ?_⟩; (· (have hcx := ifs_ex hx); simp [go_sem, *, ↓IntWalk.iteOmega] <;> (first | rfl | exact ⟨rfl, rfl⟩ | fail)); (simp only [Act.put, List.setIfInBounds_toArray, List.set_cons_zero, List.set_cons_succ]; refine hK _ ?_; clear hK K))) | ((with_reducible refine quietL_skip (by with_unfolding_all rfl) ?_); simp only [Act.put, List.setIfInBounds_toArray, List.set_cons_zero, List.set_cons_succ]))); refine quietL_nil ?_)
                          refine anyB_one (i := 2) (by kernel_rfl) rfl rfl ?_
                          intro w5 hb5 K hK
                          have hs5 := hb5.size
                          have HP5 := Lib.hid (hb5.trans (((Below.refl _ _).alloc (Nat.le_refl _) (.cells #[] 49)).mono hs5))
                          have HOw5 := Lib.hid (Own.new w5 w5.heap.size 49 1 0 #[] (Nat.le_refl _) rfl (by unfold maxLen; decide))
                          clear hb5
                          go_wp2
                          refine ⟨Ex.of_below HP5.out, ?_⟩
                          refine anyB_one (i := 4) (by kernel_rfl) rfl rfl ?_
                          intro w6 hb6 K hK
                          have hs6 := hb6.size
                          have HP6 := Lib.hid (HP5.out.trans (hb6.mono HP5.out.size))
                          have HOw6 := Lib.hid (own_kept HOw5.out hb6)
                          have HR6 := Lib.hid ((HR4.out.below HP6.out).more HP6.out.size)
                          have hs65 : w5.heap.size ≤ w6.heap.size := by simp at hs6; omega
                          clear hb6
                          refine wp_spread 51 49 1 4 elemF32 (.tmp 143) (.tmp 144) rfl w5.heap.size w5.heap.size rfl HOw6.out A4 (n2 + 1) c4 w6.heap.size (((recQ a l q).map smp).map (Value.float .f32)) rfl HR6.out (fun v hv => by obtain ⟨x, _, rfl⟩ := List.mem_map.1 hv; rfl) (by unfold maxLen; omega) (by omega) hs65 ?_
                          intro v' w7 hown hg hne
                          have hb7 : Below w5.heap.size w6 w7 := (Below.refl _ w6).grown hg hs65 (fun k e => by cases e; exact Nat.le_refl _)
                          have hs7 := hb7.size
                          have HP7 := Lib.hid (HP6.out.trans (hb7.mono hs5))
                          obtain ⟨A7, c7, rfl, hc7, _, hrd7⟩ := own_form hown
                          have HR7 := Lib.hid hrd7
                          clear hown hg hne hb7 hrd7
                          have hx7 := Ex.of_below (X := []) HP7.out
                          refine hK _ _ ⟨hx7, ?_⟩
                          clear hK K
                          (refine anyB_one (i := 5) (by kernel_rfl) rfl rfl ?_; intro w8 hb8 K hK; have hs8 := hb8.size; (try simp at hs8); go_wp2; refine ⟨xs_, ?_⟩)
                          refine anyB_one (i := 6) (by kernel_rfl) rfl rfl ?_
                          intro w9 hb9 K hK
                          have hs9 := hb9.size
                          have HP9 := Lib.hid ((HP7.out.trans (hb8.mono HP7.out.size)).trans (hb9.mono (by have := HP7.out.size; omega)))
                          have HR9 := Lib.hid (((HR7.out.below hb8).more hb8.size |>.below hb9).more hb9.size)
                          clear hb8 hb9
                          go_wp2_with fail
                          refine (Pack_any w9.heap.size A7 (n2 + 1) c7 xn ((recQ a l q).map smp) w9 HRk.out HR9.out (Nat.le_refl _)).mono ?_
                          rintro e w10 ⟨g, cap, rfl, ho10, hb10⟩
                          have hs10 := hb10.size
                          have HP10 := Lib.hid (HP9.out.trans (hb10.mono HP9.out.size))
                          unfold packV at ho10
                          have HR10 := Lib.hid ((Own.reads ho10).more (show g + 1 ≤ w10.heap.size from (Own.lt ho10).2))
                          clear ho10 hb10
                          generalize packB xn.data.toList ((recQ a l q).map smp) = pk at *
                          go_wp2
                          have hx10 := Ex.of_below (X := []) HP10.out
                          refine ⟨hx10, ?_⟩
                          clear hx7
                          (refine anyB_quiet_at (by kernel_rfl) calm_panic xs_ 2 [7, 8, 9] _ _ (by kernel_rfl) (by decide +kernel) ?_; simp only [pickB, List.filterMap_cons, List.filterMap_nil, List.getElem?_toArray, List.getElem?_cons_zero, List.getElem?_cons_succ]; (repeat (first | ((first | (with_reducible refine quietL_plain rfl (fun K hK => ?_)) | (with_reducible refine quietL_want (by with_unfolding_all rfl) (fun K hK => ?_))); (apply Exists.intro; refine ⟨fun wx hx => ?_, ?_⟩; (· (have hcx := ifs_ex hx); simp [go_sem, *, ↓IntWalk.iteOmega] <;> (first | rfl | exact ⟨rfl, rfl⟩ | fail)); (simp only [Act.put, List.setIfInBounds_toArray, List.set_cons_zero, List.set_cons_succ]; refine hK _ ?_; clear hK K))) | ((with_reducible refine quietL_skip (by with_unfolding_all rfl) ?_); simp only [Act.put, List.setIfInBounds_toArray, List.set_cons_zero, List.set_cons_succ]))); refine quietL_nil ?_)
                          (refine anyB_one (i := 10) (by kernel_rfl) rfl rfl ?_; intro w11 hb11 K hK; have hs11 := hb11.size; (try simp at hs11); go_wp2; refine ⟨xs_, ?_⟩)
                          (refine anyB_one (i := 11) (by kernel_rfl) rfl rfl ?_; intro w12 hb12 K hK; have hs12 := hb12.size; (try simp at hs12); go_wp2; refine ⟨xs_, ?_⟩)
                          (refine anyB_end (by kernel_rfl) ?_; intro w13 hb13; have hs13 := hb13.size; (try simp at hs13); simp only [Calm])
                          have hbz := hb11.trans ((hb12.trans (hb13.mono hb12.size)).mono hb11.size)
                          have HP13 := Lib.hid (HP10.out.trans (hbz.mono HP10.out.size))
                          have HR13 := Lib.hid ((HR10.out.below hbz).more hbz.size)
                          clear hbz hb11 hb12 hb13
                          go_wp2_with fail
                          go_meet
                          case rel => exact ⟨g, cap, rfl, rfl, HR13.out, HP13.out⟩
                      as_aux_lemma =>
                        rename World => W5
                        obtain ⟨g5, cap5, rfl, rfl, hr5, hb5⟩ := hcut
                        have hs5 := hb5.size
                        have hpn : (packB xn.data.toList ((recQ a l q).map smp)).length ≤ 5000 := by
                          have h1 := pack_len xn.data.toList ((recQ a l q).map smp)
                          have h2 := name_24 HRk.out.name
                          have h3 : xn.data.toList.length = xn.size := by simp
                          rw [h3, List.length_map, HQl.out] at h1
                          omega
                        have HI5 := Lib.hid (HI4.out.kept hb5)
                        have HX5 := Lib.hid (HX4.out.kept hb5)
                        have HV5 := Lib.hid (HV4.out.kept hb5)
                        have HB5 := Lib.hid (HB4.out.trans (hb5.mono HB4.out.size))
                        have HS5 := Lib.hid ((HR4.out.below hb5).more hs5)
                        have HUn := Lib.hid (fun W A c (hr : Reads W W.heap.size 1 A (packB xn.data.toList ((recQ a l q).map smp)).length ((packB xn.data.toList ((recQ a l q).map smp)).map (.int .u8))) (hc : (packB xn.data.toList ((recQ a l q).map smp)).length ≤ c) => Unpack_any W.heap.size A (packB xn.data.toList ((recQ a l q).map smp)).length c xn ((recQ a l q).map smp) W HRk.out hr (Nat.le_refl _) hc)
                        unfold UnRes at HUn
                        rw [List.length_map, HQl.out] at HUn
                        have hr5' := hr5.alloc (Nat.le_refl _) (.cells #[] 5)
                        have HR5 := Lib.hid hr5'
                        clear cX lX hb5 hr5 hr5' HI4 HX4 HV4 HB4
                        generalize packB xn.data.toList ((recQ a l q).map smp) = pk at *
                        have cX := HX5.out.cell
                        have lX := HX5.out.lt
                        go_wp2_with (at_builtin; refine wpList_plain rfl fun K hK => ?_; refine wp_spread 52 5 1 1 elemU8 (.tmp 151) (.tmp 152) rfl W5.heap.size W5.heap.size rfl (Own.new W5 W5.heap.size 5 1 0 #[] (Nat.le_refl _) rfl (by unfold maxLen; decide)) (some ⟨g5, 0, none⟩) pk.length cap5 W5.heap.size (pk.map (.int .u8)) rfl HR5.out (fun v hv => by obtain ⟨x, _, rfl⟩ := List.mem_map.1 hv; rfl) (by unfold maxLen; omega) (by omega) (by simp) ?_)
                        intro v' W6 hown hg hne
                        have hb6 : Below W5.heap.size W5 W6 := (((Below.refl _ W5).alloc (Nat.le_refl _) (.cells #[] 5)).grown hg (by simp) (fun k e => by cases e; exact Nat.le_refl _))
                        obtain ⟨A6, c6, rfl, hc6, _, hrd6⟩ := own_form hown
                        have hs6 := hb6.size
                        have HX6 := Lib.hid (HX5.out.kept hb6)
                        have HP6 := Lib.hid hb6
                        have HR6 := Lib.hid hrd6
                        clear hown hg hne hb6 hrd6 HR5 cX lX
                        have cX := HX6.out.cell
                        have lX := HX6.out.lt
                        refine hK _ _ ?_
                        clear hK K
                        go_wp2_with fail
                        refine (HUn.out W6 A6 c6 HR6.out hc6).mono ?_
                        rintro e W7 ⟨A7, c7, rfl, ho7, hb7⟩
                        have hs7 := hb7.size
                        have HP7 := Lib.hid (HP6.out.trans (hb7.mono HP6.out.size))
                        have hX7 := HX6.out.kept hb7
                        have ho7' := row_baseR ho7 (show W0.heap.size ≤ W6.heap.size by have := HB5.out.size; omega)
                        have hr7 : Reads W7 W7.heap.size 1 A7 (n2 + 1) (((recQ a l q).map smp).map (Value.float .f32)) := by
                          obtain ⟨A8, c8, e8, _, _, hrd7⟩ := own_form ho7
                          cases e8
                          exact hrd7
                        have HO7 : Hid (W7.ownsRow W0.heap.size 49 1 (.slice A7 (n2 + 1) c7) (n2 + 1) (smps (recQ a l q))) := Lib.hid (by rw [smps_map]; exact ho7')
                        have HR7 := Lib.hid hr7
                        clear cX lX ho7 ho7' hr7 hb7 HR6 HP6 HX6 HUn
                        go_upto_region 29 with fail
                        refine wp_world ?_
                        intro W8 hW8
                        have hb8 : Below W7.heap.size W7 W8 := by rw [hW8]; exact bl_
                        have HX8 := Lib.hid (hX7.kept hb8)
                        have HR8 := Lib.hid (show Blk W8 W7.heap.size 56 #[.string xn, .slice A7 (n2 + 1) c7] from by rw [hW8]; exact Blk.new _ _ _)
                        have HP8 := Lib.hid (HP7.out.trans (hb8.mono HP7.out.size))
                        have HO8 := Lib.hid (own_kept HO7.out hb8)
                        have HRa := Lib.hid ((HR7.out.below hb8).more hb8.size)
                        have HRb := Lib.hid ((HS5.out.below HP8.out).more HP8.out.size)
                        have HV8 := Lib.hid (HV5.out.kept HP8.out)
                        have HB8 := Lib.hid (HB5.out.trans (HP8.out.mono HB5.out.size))
                        clear hW8 hb8 hX7 HP7 HO7 HR7 HS5 HV5 HI5 HB5
                        generalize W7.heap.size = rb at *
                        have cX := HX8.out.cell
                        have lX := HX8.out.lt
                        have cR := HR8.out.cell
                        have lR := HR8.out.lt
                        have HSs := Lib.hid (SameSamples_yes W8.heap.size A7 A4 (n2 + 1) c7 c4 _ W8 HRa.out HRb.out (Nat.le_refl _) (by omega) HRk.out.samp)
                        have hxx : (xn.data.toList == xn.data.toList) = true := by simp
                        have hxy : (xn.toList == xn.toList) = true := by simp
                        clear HX5
                        go_wp2_with fail
                        refine HSs.out.mono ?_
                        rintro e W9 ⟨rfl, hb9⟩
                        have hs9 := hb9.size
                        have HP9 := Lib.hid hb9
                        have HCl := Lib.hid (CheckList_any W9.heap.size A7 (n2 + 1) c7 _ W9 ((HRa.out.below hb9).more hs9) (Nat.le_refl _) (by omega))
                        rw [first_smps HQi.out] at HCl
                        have HR9 := Lib.hid (HR8.out.kept hb9)
                        clear cX lX cR lR hb9 HRb
                        have cR := HR9.out.cell
                        have lR := HR9.out.lt
                        go_wp2_with fail
                        refine HCl.out.mono ?_
                        rintro e W10 ⟨rfl, hb10⟩
                        have hs10 := hb10.size
                        have HPa := Lib.hid (HP9.out.trans (hb10.mono hs9))
                        have HRd := Lib.hid (HR9.out.kept hb10)
                        have HVa := Lib.hid (HV8.out.kept HPa.out)
                        have HOa := Lib.hid (own_kept HO8.out HPa.out)
                        have HBa := Lib.hid (HB8.out.trans (HPa.out.mono HB8.out.size))
                        have hrl := recs_len a l q
                        have HVo := HVa.out.out
                        rw [hrl] at HVo
                        have HVp := Lib.hid HVo
                        have HRl := Lib.hid hrl
                        clear cR lR hb10 HSs HCl HR8 HR9 HP9 hrl HVo
                        have cR := HRd.out.cell
                        have lR := HRd.out.lt
                        go_wp2_with (at_builtin; refine wpList_app 30 51 1 24 elemFF rfl (.tmp 183) (.tmp 186) rfl W0.heap.size _ q vs rfl HVp.out 1 rfl rfl ?h1 (by decide) ?h3 (by omega) (by have := HBa.out.size; omega) ?_)
                        case h1 => rfl
                        case h3 => unfold maxLen; omega
                        intro g' cap' W11 hown' hb' hk' hs'
                        have HLn : Hid (LgS W0.heap.size (.slice (some ⟨g', 0, none⟩) (q + 1) cap') (vs ++ [.slice A7 (n2 + 1) c7]) (recs a l (q + 1)) W11) := Lib.hid (by
                          rw [recs_succ]
                          refine HVa.out.app (by rw [HRl.out]; exact hown') hk' ?_
                          rw [HQl.out]
                          exact HOa.out)
                        have HBn := Lib.hid (HBa.out.trans hb')
                        clear hown' hb' hk' cR lR
                        go_wp2
                        go_roundw
                        case rel => exact ⟨q + 1, _, _, by omega, by go_num, rfl, HLn.out, HBn.out⟩
                        case measure => simp [intOf]; omega
                · obtain rfl : q = n := by omega
                  go_wp2_with fail
                  go_meet
                  case rel => exact ⟨_, _, rfl, HV.out, HBr.out⟩
        as_aux_lemma =>

            rename World => w20
            obtain ⟨vr, vs, rfl, hlr, hb⟩ := hcut
            have HI1 := Lib.hid (HI.out.kept hb)
            have HV := Lib.hid hlr
            have HL := Lib.hid (HI.out.low.trans (hb.mono HI.out.low.size))
            have HA := Lib.hid HI1.out.bA
            clear hb hlr cA lA HI
            obtain ⟨Ar_, cr, rfl, _, _, _⟩ := own_form HV.out.out
            have hrl : n = (recs a l n).length := (recs_len a l n).symm
            rw [← hrl] at HV ⊢
            have HRl := Lib.hid hrl
            clear hrl
            have cHA := HA.out.cell
            have lHA := HA.out.lt
            go_wp2_with fail
            refine (HOw.out _ HL.out).mono ?_
            rintro e w21 ⟨A21, c21, rfl, hm, hc, hb⟩
            have HM21 := Lib.hid hm; have HC21 := Lib.hid hc; clear hm hc
            clear cHA lHA
            have hs21 := hb.size
            have HL' := Lib.hid (HL.out.trans (hb.mono HL.out.size)); clear HL; have HL := HL'; clear HL'
            have HI1' := Lib.hid (HI1.out.kept hb); clear HI1; have HI1 := HI1'; clear HI1'
            have HV' := Lib.hid (HV.out.kept hb); clear HV; have HV := HV'; clear HV'
            have HA' := Lib.hid (HA.out.kept hb); clear HA; have HA := HA'; clear HA'
            clear hb
            have cHA := HA.out.cell
            have lHA := HA.out.lt
            go_wp2_with fail
            refine (HNa.out _ _ _ HM21.out HC21.out).mono ?_
            rintro e w22 ⟨rfl, hb⟩
            clear HM21 HC21 HNa
            clear cHA lHA
            have hs22 := hb.size
            have HL' := Lib.hid (HL.out.trans (hb.mono HL.out.size)); clear HL; have HL := HL'; clear HL'
            have HI1' := Lib.hid (HI1.out.kept hb); clear HI1; have HI1 := HI1'; clear HI1'
            have HV' := Lib.hid (HV.out.kept hb); clear HV; have HV := HV'; clear HV'
            have HA' := Lib.hid (HA.out.kept hb); clear HA; have HA := HA'; clear HA'
            clear hb
            have cHA := HA.out.cell
            have lHA := HA.out.lt
            clear cHA lHA
            go_upto_block 4 with fail
            refine wp_world ?_
            intro W1 hW1
            have hb1 : Below w22.heap.size w22 W1 := by rw [hW1]; exact bl_
            have HI2 := Lib.hid (HI1.out.kept hb1)
            have HV2 := Lib.hid (HV.out.kept hb1)
            clear hW1 hb1 HI1 HV HA HL
            have hEa := ener_bd' (fit_of HEn.out.1)
            go_cut [] (fun wx => Below w.heap.size w wx)
            case first =>
              as_aux_lemma =>
                go_wp2_with fail
                go_loopw [199] (fun s199 wr => ∃ i : Nat, i ≤ n2 ∧ s199 = .int .i64 (i : Int) ∧ Below W1.heap.size W1 wr) (fun s199 _ => n2 - (intOf s199).toNat)
                case atStart => exact ⟨0, by omega, rfl, Below.refl _ _⟩
                case round =>
                  as_aux_lemma =>
                    obtain ⟨i, hi, rfl, hbr⟩ := hrel
                    have hsr := hbr.size
                    have HIr := Lib.hid (HI2.out.kept hbr)
                    have HVr := Lib.hid (HV2.out.kept hbr)
                    have HBr := Lib.hid hbr
                    clear hbr
                    have cA := HIr.out.bA.cell
                    have lA := HIr.out.bA.lt
                    by_cases hlt : i < n2
                    · skip
                      as_aux_lemma =>
                        have hia : i < l.length := by rw [HEn.out.2.2.2.2.2]; exact hlt
                        have hin : (i : Int) < (n2 : Int) := by omega
                        obtain ⟨bo, oo, eo, hbo, y0, y1⟩ := (od_at HIr.out.rO).2 i hia
                        obtain ⟨d, hst⟩ := st_at HEn.out.1 HEn.out.2.1 HGo.out hia
                        have hoo := HEn.out.2.1 _ (List.getElem_mem hia)
                        obtain ⟨he1, he2⟩ := st_end HEn.out.1 HEn.out.2.1 hia hoo hst
                        have hdl : d.m.length = n := hst.s4.len.trans HEn.out.2.2.2.2.1
                        have hMl : (stepA d l[i]).m.length = n := by
                          show (stepMs _ _ _ _).length = n
                          rw [stepMs_len, hdl]
                        have hOk : ordsE a (l.take (i + 1)) = 0 := ords_take (i + 1) HEn.out.1 (by rw [HEn.out.2.2.2.2.2]; omega) HEn.out.2.1
                        have hwk : wrkE a (l.take (i + 1)) = 0 := by unfold wrkE; rw [hOk, fol_all hst.go1, or0_yes]
                        have hwv : wrkV a (l.take (i + 1)) = workL a (l.take (i + 1)) := by unfold wrkV; rw [if_pos hwk]
                        have hEd := ener_bd' (fit_of (step_ok hst.arm (order_zero hoo).1.1 hst.ok))
                        have hwb : workL a (l.take (i + 1)) = enerL (stepA d l[i]) - enerL a := by omega
                        have HWi := Lib.hid (fun W A A3 c c3 (hm : MsAt W W.heap.size A n a.m) (hc : n ≤ c) (hr : Reads W W.heap.size 2 A3 (i + 1) (ods (l.take (i + 1)))) => HWk.out W (i + 1) hlt A A3 c c3 hm hc hr)
                        rw [hwk, hwv, hwb] at HWi
                        have HOi := Lib.hid (fun W (hW : Below w.heap.size w W) => HOk.out W (i + 1) hlt hW)
                        have HSt := Lib.hid hst
                        have hcb := (order_zero hoo).2
                        have hnb := (order_zero hoo).1
                        have HH := Lib.hid hoo
                        have HDl := Lib.hid hdl
                        have HMl := Lib.hid hMl
                        have HWb := Lib.hid he1
                        clear hdl hMl hOk hwk hwv hwb hst hoo he1 HWk HOk
                        generalize l[i] = o at *
                        obtain ⟨on, oc⟩ := o
                        dsimp only at y0 y1 hcb hnb he2
                        subst eo
                        obtain ⟨M, hMd⟩ : ∃ M, (stepA d ⟨on, oc⟩).m = M := ⟨_, rfl⟩
                        have hen : enerL (stepA d ⟨on, oc⟩) = sumI enF M := by rw [← hMd]; rfl
                        rw [hen] at HWi hEd HWb
                        rw [hMd] at he2 HMl
                        have HMd := Lib.hid hMd
                        have hIb : IntKind.i64.wrap ((i : Int) + 1) = (i : Int) + 1 := by rw [IntKind.wrap_i64]; omega
                        clear hMd hen
                        go_upto_region 39 with fail
                        refine wp_world ?_
                        intro W2 hW2
                        have hb2 : Below wr.heap.size wr W2 := by rw [hW2]; exact bl_
                        have HOr := Lib.hid (show Blk W2 wr.heap.size 46 #[.int .i64 on, .int .i64 oc] from by rw [hW2]; exact Blk.new _ _ _)
                        have HI3 := Lib.hid (HIr.out.kept hb2)
                        have HV3 := Lib.hid (HVr.out.kept hb2)
                        have HB3 := Lib.hid (HBr.out.trans (hb2.mono hsr))
                        clear hW2 hb2 y0 y1 hbo cA lA HIr HVr HBr HI2 HV2
                        generalize wr.heap.size = ob at *
                        have cA := HI3.out.bA.cell
                        have lA := HI3.out.bA.lt
                        have cO := HOr.out.cell
                        have lO := HOr.out.lt
                        go_upto_block 6 with fail
                        go_cut [29, 30] (fun s29 s30 wx => s29 = .int .i64 (chN oc M : Int) ∧ s30 = .int .i64 (sumI enF M) ∧ Below W2.heap.size W2 wx)
                        case first =>
                          as_aux_lemma =>
                            go_wp2_with fail
                            go_loopw [29, 30, 207] (fun s29 s30 s207 wr => ∃ q : Nat, q ≤ n ∧ s207 = .int .i64 (q : Int) ∧ s29 = .int .i64 (chN oc (M.take q) : Int) ∧ s30 = .int .i64 (sumI enF (M.take q)) ∧ Below W2.heap.size W2 wr) (fun _ _ s207 _ => n - (intOf s207).toNat)
                            case atStart => exact ⟨0, by omega, rfl, by rw [List.take_zero]; exact congrArg _ (by unfold chN; split <;> rfl), by rw [List.take_zero]; rfl, Below.refl _ _⟩
                            case round =>
                              obtain ⟨q, hq, rfl, rfl, rfl, hbw⟩ := hrel
                              clear cA lA cO lO
                              have hsw := hbw.size
                              have HI4 := Lib.hid (HI3.out.kept hbw)
                              have HV4 := Lib.hid (HV3.out.kept hbw)
                              have HO4 := Lib.hid (HOr.out.kept hbw)
                              have HB4 := Lib.hid hbw
                              clear hbw
                              have cA := HI4.out.bA.cell
                              have lA := HI4.out.bA.lt
                              have cO := HO4.out.cell
                              have lO := HO4.out.lt
                              by_cases hlq : q < n
                              · skip
                                as_aux_lemma =>
                                  have hqa : q < a.m.length := by rw [HEn.out.2.2.2.2.1]; exact hlq
                                  have hqd : q < d.m.length := by rw [HDl.out]; exact hlq
                                  have hqM : q < M.length := by rw [HMl.out]; exact hlq
                                  have hqs : q < (stepA d ⟨on, oc⟩).m.length := by rw [HMd.out]; exact hqM
                                  have hqI : (q : Int) < (n : Int) := by omega
                                  obtain ⟨ba, oa, ea, hba, z0, z1, z2, z3⟩ := (md_at HI4.out.rM).2 q hqa
                                  have hone := one_md HSt.out.arm HH.out HSt.out.ok hqd hqs
                                  have hwas := HSt.out.was q hqd
                                  have hnow := HSt.out.now q hqs
                                  have hby : (d.m[q]).by_ = (a.m[q]).by_ := by
                                    have h1 := HSt.out.s4.by_
                                    have h2 : (d.m.map Md.by_)[q]? = (a.m.map Md.by_)[q]? := by rw [h1]
                                    rw [List.getElem?_map, List.getElem?_map, List.getElem?_eq_getElem hqd, List.getElem?_eq_getElem hqa] at h2
                                    exact Option.some.inj h2
                                  have hqr : q < (recs a l n).length := by rw [recs_len]; exact hlq
                                  obtain ⟨bl, ol, Au, cu, el, hbl, x0, hru⟩ := HV4.out.at_ HRl.out hqr
                                  have hrq : (recs a l n)[q] = recQ a l q := recs_at a l hlq hqr
                                  have hrq2 : (recQ a l q).length = n2 + 1 := by rw [recQ_len, HEn.out.2.2.2.2.2]
                                  rw [hrq, hrq2] at x0 hru
                                  obtain ⟨bu, ou, u1, eu, hbu, hu1, x1⟩ := hru.at_ (k := i) (by omega)
                                  obtain ⟨bu2, ou2, u2, eu2, _, hu2, x2⟩ := hru.at_ (k := i + 1) (by omega)
                                  have hu1' : u1 = .float .f32 (smp (d.m[q]).q) := by
                                    unfold smps at hu1
                                    rw [List.getElem?_map, hwas] at hu1
                                    exact (Option.some.inj hu1).symm
                                  have hu2' : u2 = .float .f32 (smp ((stepA d ⟨on, oc⟩).m[q]).q) := by
                                    unfold smps at hu2
                                    rw [List.getElem?_map, hnow] at hu2
                                    exact (Option.some.inj hu2).symm
                                  have hMq : (stepA d ⟨on, oc⟩).m[q] = M[q] := by simp only [HMd.out]
                                  have hcN := chN_take (c := oc) hqM
                                  have hsN := sumI_take enF hqM
                                  have hcb2 := chN_le oc (M.take q)
                                  have hsb := enF_bd (l := M.take q) (fun y hy => by
                                    have := (fit_of (step_ok HSt.out.arm (order_zero HH.out).1.1 HSt.out.ok)).q y (by rw [HMd.out]; exact List.mem_of_mem_take hy)
                                    exact this)
                                  rw [List.length_take, Nat.min_eq_left (by rw [HMl.out]; exact hq)] at hcb2 hsb
                                  rw [hu1'] at x1
                                  rw [hu2', hMq] at x2
                                  rw [hMq] at hone
                                  have hby2 := hone.by_
                                  clear hru hu1 hu2 hu1' hu2' hwas hnow hrq hrq2 hqr
                                  cases eu.symm.trans eu2
                                  have HS0 := Lib.hid (fun W => Sixteenths_smp hone.xq W)
                                  have HS1 := Lib.hid (fun W => Sixteenths_smp hone.zq W)
                                  have hst1 := hone.q
                                  have hst2 := hone.stay
                                  have hst3 := hone.band
                                  have hst4 := hone.on
                                  have hst5 := hone.off
                                  dsimp only at hst1 hst4
                                  have hxq := hone.xq
                                  have hzq := hone.zq
                                  rw [HSt.out.s4.lo, HSt.out.s4.hi] at hst3
                                  rw [hby] at hby2 hst2 hst3
                                  clear hone hby hMq
                                  have hen : enF M[q] = if (M[q]).by_ then 0 else (M[q]).q * (M[q]).q := rfl
                                  rw [hby2] at hen
                                  rw [hen] at hsN
                                  clear hen hby2 hqs
                                  generalize (M[q]).on = zo at *
                                  generalize (M[q]).q = zn at *
                                  generalize (d.m[q]).q = zw at *
                                  generalize a.m[q] = x at *
                                  obtain ⟨xn, xq, xo, xb⟩ := x
                                  dsimp only at z0 z1 z2 z3 hst2 hst3 hsN
                                  have HCN := Lib.hid hcN
                                  have HSN := Lib.hid hsN
                                  generalize chN oc (M.take q) = cn at *
                                  generalize sumI enF (M.take q) = sn at *
                                  subst ea
                                  subst el
                                  subst eu
                                  have hII : (i : Int) < ((n2 + 1 : Nat) : Int) := by omega
                                  have hIJ : ((i + 1 : Nat) : Int) < ((n2 + 1 : Nat) : Int) := by omega
                                  have HQn := Lib.hid hqI
                                  clear hcN hsN hqd hqM
                                  go_upto_region 43 with fail
                                  refine wp_world ?_
                                  intro W5 hW5
                                  have hb5 : Below wr.heap.size wr W5 := by rw [hW5]; exact bl_
                                  have HX := Lib.hid (show Blk W5 wr.heap.size 48 #[.string xn, .int .i64 xq, .bool xo, .bool xb] from by rw [hW5]; exact Blk.new _ _ _)
                                  have HB5 := Lib.hid (HB4.out.trans (hb5.mono hsw))
                                  have HI5 := Lib.hid (HI4.out.kept hb5)
                                  have HO5 := Lib.hid (HO4.out.kept hb5)
                                  have x0 := (hb5.cell (p := ⟨bl, ol + q, none⟩) hbl).trans x0
                                  have x1 := (hb5.cell (p := ⟨bu, ou + i, none⟩) hbu).trans x1
                                  have x2 := (hb5.cell (p := ⟨bu, ou + (i + 1), none⟩) hbu).trans x2
                                  have hblw : bl < W5.heap.size := Nat.lt_of_lt_of_le hbl hb5.size
                                  have hbuw : bu < W5.heap.size := Nat.lt_of_lt_of_le hbu hb5.size
                                  have hs5 := hb5.size
                                  clear hW5 hb5 z0 z1 z2 z3 hba cA lA cO lO HI4 HV4 HO4 HB4
                                  generalize wr.heap.size = mb at *
                                  go_cut [33, 34] (fun s33 s34 wx => s33 = .int .i64 zw ∧ s34 = .int .i64 zn ∧ Below W5.heap.size W5 wx)
                                  case first =>
                                    as_aux_lemma =>
                                      go_wp2_with fail
                                      (refine wp_region_calm [] [0, 1, 2, 3, 4, 5, 6, 7, 8, 9, 10, 11, 12, 13, 14, 15, 16, 17, 18] 0 (by kernel_rfl) rfl (by kernel_rfl) (by kernel_rfl) (by kernel_rfl) ?_; simp only [pickB, List.filterMap_cons, List.filterMap_nil, List.getElem?_toArray, List.getElem?_cons_zero, List.getElem?_cons_succ]; (repeat (first | ((first | (with_reducible refine quietL_plain rfl (fun K hK => ?_)) | (with_reducible refine quietL_want (by with_unfolding_all rfl) (fun K hK => ?_))); (apply Exists.intro; refine ⟨fun wx hx => ?_, ?_⟩; (· (have hcx := ifs_ex hx); simp [go_sem, *, ↓IntWalk.iteOmega] <;> (first | rfl | exact ⟨rfl, rfl⟩ | (first | (with_reducible exact calls_B (calls_below (HS0.out _))) | (with_reducible exact calls_B (calls_below (HS1.out _)))))); (simp only [Act.put, List.setIfInBounds_toArray, List.set_cons_zero, List.set_cons_succ]; refine hK _ ?_; clear hK K))) | ((with_reducible refine quietL_skip (by with_unfolding_all rfl) ?_); simp only [Act.put, List.setIfInBounds_toArray, List.set_cons_zero, List.set_cons_succ]))); refine quietL_nil ?_)
                                      (refine anyB_end (by kernel_rfl) ?_; intro w6 hb6; have hs6 := hb6.size; (try simp at hs6); simp only [Calm])
                                      go_wp2_with fail
                                      go_meet
                                      case rel => exact ⟨rfl, rfl, hb6⟩
                                  as_aux_lemma =>
                                    rename World => W6
                                    obtain ⟨rfl, rfl, hb6⟩ := hcut
                                    have HX6 := Lib.hid (HX.out.kept hb6)
                                    have HO6 := Lib.hid (HO5.out.kept hb6)
                                    have HI6 := Lib.hid (HI5.out.kept hb6)
                                    have HB6 := Lib.hid (HB5.out.trans (hb6.mono HB5.out.size))
                                    have hs6 := hb6.size
                                    clear hb6 HX HO5 HI5 HB5 x0 x1 x2 hblw hbuw HS0 HS1
                                    have cA := HI6.out.bA.cell
                                    have lA := HI6.out.bA.lt
                                    have cO := HO6.out.cell
                                    have lO := HO6.out.lt
                                    have cX := HX6.out.cell
                                    have lX := HX6.out.lt
                                    have hmul := sq_bd hzq
                                    have hw2 : IntKind.i64.wrap (zn * zn) = zn * zn := by rw [IntKind.wrap_i64]; omega
                                    have hw3 : IntKind.i64.wrap (sn + zn * zn) = sn + zn * zn := by rw [IntKind.wrap_i64]; omega
                                    have hw4 : IntKind.i64.wrap ((cn : Int) + 1) = (cn : Int) + 1 := by rw [IntKind.wrap_i64]; omega
                                    have hw1 : IntKind.i64.wrap (zw + oc) = zw + oc := by rw [IntKind.wrap_i64]; omega
                                    by_cases hch : zn = zw
                                    · subst hch
                                      have hc0 : ¬ (oc ≠ 0 ∧ zo = true) := fun h => h.1 (by have := hst4 h.2; omega)
                                      have HCn : Hid (chN oc (M.take (q + 1)) = cn) := Lib.hid (by rw [HCN.out, if_neg hc0, Nat.add_zero])
                                      have e1 : (zn != zn) = false := by simp
                                      clear hc0 HCN hst1 hst4 hst5
                                      cases hxb : xb with
                                      | true =>
                                        subst hxb
                                        have HSn : Hid (sumI enF (M.take (q + 1)) = sn) := Lib.hid (by rw [HSN.out]; exact Int.add_zero _)
                                        clear HSN hst2 hst3
                                        go_wp2_with fail
                                        go_roundw
                                        case rel => exact ⟨q + 1, by omega, by go_num, by rw [HCn.out], by rw [HSn.out], HB6.out⟩
                                        case measure => simp [intOf]; omega
                                      | false =>
                                        subst hxb
                                        have HSn : Hid (sumI enF (M.take (q + 1)) = sn + zn * zn) := Lib.hid (by rw [HSN.out]; rfl)
                                        obtain ⟨e2, e3⟩ := hst3 rfl
                                        have e4 : ¬ (zn < a.lo) := by omega
                                        have e5 : ¬ (a.hi < zn) := by omega
                                        clear HSN hst2 hst3
                                        go_wp2_with fail
                                        go_roundw
                                        case rel => exact ⟨q + 1, by omega, by go_num, by rw [HCn.out], by rw [HSn.out], HB6.out⟩
                                        case measure => simp [intOf]; omega
                                    · have hzo : zo = true := by
                                        cases hz : zo with
                                        | true => rfl
                                        | false => exact absurd (hst5 hz) hch
                                      have hzc := hst4 hzo
                                      have hc1 : oc ≠ 0 ∧ zo = true := ⟨fun h => hch (by omega), hzo⟩
                                      have HCn : Hid (chN oc (M.take (q + 1)) = cn + 1) := Lib.hid (by rw [HCN.out, if_pos hc1])
                                      have e1 : (zn != zw) = true := by simpa using hch
                                      have e6 : (zn != zw + oc) = false := by rw [hzc]; simp
                                      have hxb : xb = false := by
                                        cases hx : xb with
                                        | false => rfl
                                        | true => exact absurd (hst2 hx) hch
                                      subst hxb
                                      have HSn : Hid (sumI enF (M.take (q + 1)) = sn + zn * zn) := Lib.hid (by rw [HSN.out]; rfl)
                                      obtain ⟨e2, e3⟩ := hst3 rfl
                                      have e4 : ¬ (zn < a.lo) := by omega
                                      have e5 : ¬ (a.hi < zn) := by omega
                                      clear hc1 HCN hst1 hst4 hst5 HSN hst2 hst3 hzo hzc hch
                                      go_wp2_with fail
                                      go_roundw
                                      case rel => exact ⟨q + 1, by omega, by go_num, by rw [HCn.out]; go_num, by rw [HSn.out], HB6.out⟩
                                      case measure => simp [intOf]; omega
                              · obtain rfl : q = n := by omega
                                have HMt : Hid (M.take q = M) := Lib.hid (List.take_of_length_le (by rw [HMl.out]; exact Nat.le_refl _))
                                go_wp2_with fail
                                go_meet
                                case rel => exact ⟨by rw [HMt.out], by rw [HMt.out], HB4.out⟩
                        as_aux_lemma =>
                          rename World => W3
                          obtain ⟨rfl, rfl, hb4⟩ := hcut
                          have HI4 := Lib.hid (HI3.out.kept hb4)
                          have HO4 := Lib.hid (HOr.out.kept hb4)
                          have HB4 := Lib.hid (HB3.out.trans (hb4.mono HB3.out.size))
                          clear hb4 HI3 HV3 HOr HB3 cA lA cO lO
                          have cA := HI4.out.bA.cell
                          have lA := HI4.out.bA.lt
                          have hIt : ((i : Int) + 1).toNat = i + 1 := by omega
                          have hsl1 : i + 1 ≤ c2 := by omega
                          have hsl2 : ¬ (c2 < i + 1) := by omega
                          have hsl3 : (0 : Int) ≤ (i : Int) + 1 := by omega
                          have hsl4 : (i : Int) + 1 ≤ (c2 : Int) := by omega
                          have hsl5 : ¬ ((c2 : Int) < (i : Int) + 1) := by omega
                          go_upto_region 51 with fail
                          go_cut [35, 36] (fun s35 s36 wx => s35 = .int .i64 (sumI enF M - enerL a) ∧ s36 = .int .i64 0 ∧ Below W3.heap.size W3 wx)
                          case first =>
                            as_aux_lemma =>
                              go_wp2_with fail
                              have HP := Lib.hid (Below.refl W3.heap.size W3)
                              (refine wp_region_calm [] [0, 2, 3, 4, 5] 8 (by kernel_rfl) rfl (by kernel_rfl) (by kernel_rfl) (by kernel_rfl) ?_; simp only [pickB, List.filterMap_cons, List.filterMap_nil, List.getElem?_toArray, List.getElem?_cons_zero, List.getElem?_cons_succ]; (repeat (first | ((first | (with_reducible refine quietL_plain rfl (fun K hK => ?_)) | (with_reducible refine quietL_want (by with_unfolding_all rfl) (fun K hK => ?_))); (apply Exists.intro; refine ⟨fun wx hx => ?_, ?_⟩; (· (have hcx := ifs_ex hx); simp [go_sem, *, ↓IntWalk.iteOmega] <;> (first | rfl | exact ⟨rfl, rfl⟩ | skip)); (simp only [Act.put, List.setIfInBounds_toArray, List.set_cons_zero, List.set_cons_succ]; refine hK _ ?_; clear hK K))) | ((with_reducible refine quietL_skip (by with_unfolding_all rfl) ?_); simp only [Act.put, List.setIfInBounds_toArray, List.set_cons_zero, List.set_cons_succ]))); refine quietL_nil ?_)
                              as_aux_lemma =>
                                refine anyB_one (i := 1) (by kernel_rfl) rfl rfl ?_
                                intro wca hbca K hK
                                have hsca := hbca.size
                                (try simp at hsca)
                                replace HP := Lib.hid (HP.out.trans (hbca.mono HP.out.size))
                                (try replace HMo := Lib.hid (ms_kept HMo.out hbca))
                                (try replace HRo := Lib.hid (ods_kept HRo.out hbca))
                                clear hbca
                                go_wp2_with fail
                                refine (HOw.out _ (HI4.out.low.trans (HP.out.mono HI4.out.low.size))).mono ?_
                                rintro e wcb ⟨Ao, co, rfl, hm, hc, hbcb⟩
                                have hscb := hbcb.size
                                (try replace HMo := Lib.hid (ms_kept HMo.out hbcb))
                                (try replace HRo := Lib.hid (ods_kept HRo.out hbcb))
                                have HMo := Lib.hid hm; have HCo := Lib.hid hc; clear hm hc
                                replace HP := Lib.hid (HP.out.trans (hbcb.mono HP.out.size))
                                clear hbcb
                                go_wp2
                                (try clear hx_)
                                have hx_ := Ex.of_below (X := []) HP.out
                                refine ⟨hx_, ?_⟩
                                as_aux_lemma =>
                                  refine anyB_one (i := 6) (by kernel_rfl) rfl rfl ?_
                                  intro wda hbda K hK
                                  have hsda := hbda.size
                                  (try simp at hsda)
                                  replace HP := Lib.hid (HP.out.trans (hbda.mono HP.out.size))
                                  (try replace HMo := Lib.hid (ms_kept HMo.out hbda))
                                  (try replace HRo := Lib.hid (ods_kept HRo.out hbda))
                                  clear hbda
                                  go_wp2_with fail
                                  refine (HOi.out _ (HI4.out.low.trans (HP.out.mono HI4.out.low.size))).mono ?_
                                  rintro e wdb ⟨Ad, cd, rfl, hrd, _, hbdb⟩
                                  have hsdb := hbdb.size
                                  (try replace HMo := Lib.hid (ms_kept HMo.out hbdb))
                                  (try replace HRo := Lib.hid (ods_kept HRo.out hbdb))
                                  have HRo := Lib.hid hrd; clear hrd
                                  replace HP := Lib.hid (HP.out.trans (hbdb.mono HP.out.size))
                                  clear hbdb
                                  go_wp2
                                  (try clear hx_)
                                  have hx_ := Ex.of_below (X := []) HP.out
                                  refine ⟨hx_, ?_⟩
                                  as_aux_lemma =>
                                    refine anyB_one (i := 7) (by kernel_rfl) rfl rfl ?_
                                    intro wfa hbfa K hK
                                    have hsfa := hbfa.size
                                    (try simp at hsfa)
                                    replace HP := Lib.hid (HP.out.trans (hbfa.mono HP.out.size))
                                    (try replace HMo := Lib.hid (ms_kept HMo.out hbfa))
                                    (try replace HRo := Lib.hid (ods_kept HRo.out hbfa))
                                    clear hbfa
                                    go_wp2_with fail
                                    refine (HWi.out _ _ _ _ _ HMo.out HCo.out HRo.out).mono ?_
                                    rintro e wfb ⟨rfl, hbfb⟩
                                    have hsfb := hbfb.size
                                    (try replace HMo := Lib.hid (ms_kept HMo.out hbfb))
                                    (try replace HRo := Lib.hid (ods_kept HRo.out hbfb))
                                    clear HMo HRo
                                    replace HP := Lib.hid (HP.out.trans (hbfb.mono HP.out.size))
                                    clear hbfb
                                    go_wp2
                                    (try clear hx_)
                                    have hx_ := Ex.of_below (X := []) HP.out
                                    refine ⟨hx_, ?_⟩
                                    as_aux_lemma =>
                                      (refine anyB_quiet_at (by kernel_rfl) calm_panic xs_ 2 [8, 9, 10] _ _ (by kernel_rfl) (by decide +kernel) ?_; simp only [pickB, List.filterMap_cons, List.filterMap_nil, List.getElem?_toArray, List.getElem?_cons_zero, List.getElem?_cons_succ]; (repeat (first | ((first | (with_reducible refine quietL_plain rfl (fun K hK => ?_)) | (with_reducible refine quietL_want (by with_unfolding_all rfl) (fun K hK => ?_))); (apply Exists.intro; refine ⟨fun wx hx => ?_, ?_⟩; (· (have hcx := ifs_ex hx); simp [go_sem, *, ↓IntWalk.iteOmega] <;> (first | rfl | exact ⟨rfl, rfl⟩ | fail)); (simp only [Act.put, List.setIfInBounds_toArray, List.set_cons_zero, List.set_cons_succ]; refine hK _ ?_; clear hK K))) | ((with_reducible refine quietL_skip (by with_unfolding_all rfl) ?_); simp only [Act.put, List.setIfInBounds_toArray, List.set_cons_zero, List.set_cons_succ]))); refine quietL_nil ?_)
                                      refine anyB_one (i := 11) (by kernel_rfl) rfl rfl ?_
                                      intro wi hbi K hK
                                      replace HP := Lib.hid (HP.out.trans (hbi.mono HP.out.size))
                                      clear hbi
                                      go_wp2
                                      refine ⟨Ex.of_below HP.out, ?_⟩
                                      refine anyB_one (i := 12) (by kernel_rfl) rfl rfl ?_
                                      intro wj hbj K hK
                                      replace HP := Lib.hid (HP.out.trans (hbj.mono HP.out.size))
                                      clear hbj
                                      go_wp2
                                      refine ⟨Ex.of_below HP.out, ?_⟩
                                      refine anyB_end (by kernel_rfl) ?_
                                      intro wl hbl
                                      simp only [Calm]
                                      replace HP := Lib.hid (HP.out.trans (hbl.mono HP.out.size))
                                      clear hbl
                                      go_wp2_with fail
                                      go_meet
                                      case rel => exact ⟨rfl, rfl, HP.out⟩
                          as_aux_lemma =>
                            rename World => W7
                            obtain ⟨rfl, rfl, hb5⟩ := hcut
                            have HI5 := Lib.hid (HI4.out.kept hb5)
                            have HO5 := Lib.hid (HO4.out.kept hb5)
                            have HB5 := Lib.hid (HB4.out.trans (hb5.mono HB4.out.size))
                            clear hb5 HI4 HO4 HB4 cA lA HWi HOi HOw
                            have cA := HI5.out.bA.cell
                            have lA := HI5.out.bA.lt
                            have cO := HO5.out.cell
                            have lO := HO5.out.lt
                            have hse : enerL a + (sumI enF M - enerL a) = sumI enF M := by omega
                            have hws : IntKind.i64.wrap (sumI enF M) = sumI enF M := by rw [IntKind.wrap_i64]; omega
                            have hss : (sumI enF M != sumI enF M) = false := by simp
                            have hs5 := HB5.out.size
                            clear hIt hsl1 hsl2 hsl3 hsl4 hsl5 hEd hEa
                            generalize sumI enF M = se at *
                            as_aux_lemma =>
                              by_cases hoc : oc = 0
                              · skip
                                as_aux_lemma =>
                                  subst hoc
                                  have e1 : ((0 : Int) != 0) = false := rfl
                                  clear he2
                                  go_wp2_with fail
                                  as_aux_lemma =>
                                    go_roundw
                                    case rel => exact ⟨i + 1, by omega, by go_num, HB5.out⟩
                                    case measure => simp [intOf]; omega
                              · skip
                                as_aux_lemma =>
                                  have e1 : (oc != 0) = true := by simpa using hoc
                                  have e2 : ((chN oc M : Int) != on) = false := by rw [he2 hoc]; simp
                                  clear he2 hoc
                                  generalize (chN oc M : Int) = cM at *
                                  go_wp2_with fail
                                  as_aux_lemma =>
                                    go_roundw
                                    case rel => exact ⟨i + 1, by omega, by go_num, HB5.out⟩
                                    case measure => simp [intOf]; omega
                    · obtain rfl : i = n2 := by omega
                      have HBz := Lib.hid (HI2.out.low.trans (HBr.out.mono HI2.out.low.size))
                      go_wp2_with fail
                      go_meet
                      case rel => exact HBz.out
            rename World => W9
            have HLz := Lib.hid hcut
            clear hcut
            go_wp2_with fail
            go_ret
            exact ⟨by first | rfl | (simp; done), HLz.out⟩
end Go.Proofs.YtafnebfchhmgcaaGreat
