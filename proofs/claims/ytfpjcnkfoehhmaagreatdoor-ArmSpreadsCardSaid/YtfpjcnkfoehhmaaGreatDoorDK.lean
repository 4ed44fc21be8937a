/- The law ArmSpreads. -/
import Derived.Test.YtfpjcnkfoehhmaaGreatDoorQr
import Derived.Test.YtfpjcnkfoehhmaaGreatDoorDJ
import Derived.Test.YtfpjcnkfoehhmaaGreatDoorDG
import Derived.Test.YtfpjcnkfoehhmaaGreatDoorEB
import Derived.Test.YtfpjcnkfoehhmaaGreatDoorQl
import Derived.Test.YtfpjcnkfoehhmaaGreatDoorQk
import Derived.Test.YtfpjcnkfoehhmaaGreatDoorQf
import Derived.Test.YtfpjcnkfoehhmaaGreatDoorQh
import Derived.Test.YtfpjcnkfoehhmaaGreatDoorQg
import Derived.Test.YtfpjcnkfoehhmaaGreatDoorPC
namespace Go.Proofs.YtfpjcnkfoehhmaaGreatDoor
open Go Go.RowKit Go.Sort Go.Shelf
set_option linter.unusedSimpArgs false
set_option linter.unusedVariables false
attribute [local go_sem] cell_if frozen_if grow_cell
theorem pair_at (u v : Value) (w : World) : (Instr.index 89 (.agg #[u, v]) (.int .i64 0)).run Tryz.prog w = .ok u w ∧ (Instr.index 89 (.agg #[u, v]) (.int .i64 1)).run Tryz.prog w = .ok v w := ⟨by kernel_rfl, by kernel_rfl⟩
theorem stp_ref {a : Ar} {o : Od} (h : refE a o ≠ 0) : stepE a o = refE a o := by unfold stepE; rw [or0_no h]
theorem stp_30 {a : Ar} {o : Od} (h : refE a o = 0) (h2 : stepE a o ≠ 0) : stepE a o = 30 := by
  unfold stepE at h2 ⊢
  rw [h, or0_yes] at h2 ⊢
  unfold whenE at h2 ⊢
  split at h2
  · rename_i hh; rw [if_pos hh]
  · exact absurd rfl h2
theorem cho_eq {a : Ar} {o : Od} (hE : armE a = 0) (ho : orderE o = 0) : choE a o = refE a o := by
  unfold choE
  rw [firstE_cons, hE, or0_yes, firstE_cons, ho, or0_yes, firstE_nil, or0_yes]
theorem cho_ok {a : Ar} {o : Od} (hE : armE a = 0) (ho : orderE o = 0) (hr : refE a o = 0) : choL a o = choiceA a o := by unfold choL; rw [if_pos ((cho_eq hE ho).trans hr)]
theorem cho_no {a : Ar} {o : Od} (hE : armE a = 0) (ho : orderE o = 0) (hr : refE a o ≠ 0) : choL a o = [] := by unfold choL; rw [if_neg (by rw [cho_eq hE ho]; exact hr)]
theorem free_fit {a : Ar} (h : FitA a) : FitA (freeA a) := ⟨h.len, h.nm⟩
set_option maxRecDepth 1000000 in
set_option maxHeartbeats 16000000 in
theorem spreads_any (A : Option Addr) (n c : Nat) (a : Ar) (o : Od) (w : World) (hM : MsAt w w.heap.size A n a.m) (hn : n ≤ maxLen) (hnm : ∀ x ∈ a.m, x.n.size ≤ maxLen) (hT : TabT w) :
    Calls Tryz.prog 7 #[.agg #[.slice A n c, .int .i64 a.lo, .int .i64 a.hi, .int .i64 a.cur, .int .i64 a.lim], .agg #[.int .i64 o.n, .int .i64 o.c]] w fun e w' => e = .returned (.bool true) ∧ Below w.heap.size w w' := by
  have hl := (md_at hM).1
  have hmx : maxLen = 9223372036854775807 := rfl
  rw [hmx] at hn
  have HT := Lib.hid hT
  have HAw := Lib.hid (fun W (hW : Below w.heap.size w W) => awake_ok w W hT hW)
  have HVa := Lib.hid (fun W (hW : Below w.heap.size w W) => valid_any w.heap.size A n c a W (hM.below hW) hW.size hn hnm)
  have HCo := Lib.hid (fun W => rCheckOrder_any o W)
  clear hmx hT
  cases hv : validA a with
  | false =>
    rw [hv] at HVa
    clear hM hnm hl hv
    go_enter Tryz.func7, Tryz.ntmps7
    go_wp2_with fail
    refine (HAw.out _ bl_).mono ?_
    rintro e w1 ⟨rfl, hb⟩
    have HA : Hid (Blk w1 w.heap.size 26 #[.slice A n c, .int .i64 a.lo, .int .i64 a.hi, .int .i64 a.cur, .int .i64 a.lim]) := Lib.hid bk_
    have HO : Hid (Blk w1 (w.heap.size + 1) 68 #[.int .i64 o.n, .int .i64 o.c]) := Lib.hid bk_
    have HL : Hid (Below w.heap.size w w1) := Lib.hid bl_
    have hs1 := HL.out.size
    clear hb
    have cHA := HA.out.cell
    have lHA := HA.out.lt
    have cHO := HO.out.cell
    have lHO := HO.out.lt
    go_wp2_with fail
    refine (HVa.out _ HL.out).mono ?_
    rintro e w2 ⟨rfl, hb⟩
    clear cHA lHA cHO lHO
    have hs2 := hb.size
    have HL' := Lib.hid (HL.out.trans (hb.mono HL.out.size)); clear HL; have HL := HL'; clear HL'
    have HA' := Lib.hid (HA.out.kept hb); clear HA; have HA := HA'; clear HA'
    have HO' := Lib.hid (HO.out.kept hb); clear HO; have HO := HO'; clear HO'
    clear hb
    have cHA := HA.out.cell
    have lHA := HA.out.lt
    have cHO := HO.out.cell
    have lHO := HO.out.lt
    go_wp2_with fail
    refine (HAw.out _ HL.out).mono ?_
    rintro e w3 ⟨rfl, hb⟩
    clear cHA lHA cHO lHO
    have hs3 := hb.size
    have HL' := Lib.hid (HL.out.trans (hb.mono HL.out.size)); clear HL; have HL := HL'; clear HL'
    have HA' := Lib.hid (HA.out.kept hb); clear HA; have HA := HA'; clear HA'
    have HO' := Lib.hid (HO.out.kept hb); clear HO; have HO := HO'; clear HO'
    clear hb
    have cHA := HA.out.cell
    have lHA := HA.out.lt
    have cHO := HO.out.cell
    have lHO := HO.out.lt
    go_wp2_with fail
    go_ret
    exact ⟨rfl, HL.out⟩
  | true =>
    rw [hv] at HVa
    unfold validA at hv
    simp only [Bool.and_eq_true, decide_eq_true_eq, beq_iff_eq] at hv
    obtain ⟨⟨hsh, h8⟩, hE⟩ := hv
    have hF := short_fit hsh hnm
    rw [hl] at h8
    by_cases ho : orderE o = 0
    case neg =>
      have hne : (orderE o != 0) = true := by simpa using ho
      generalize orderE o = oe at *
      clear hM hnm hF hE hsh
      go_enter Tryz.func7, Tryz.ntmps7
      go_wp2_with fail
      refine (HAw.out _ bl_).mono ?_
      rintro e w1 ⟨rfl, hb⟩
      have HA : Hid (Blk w1 w.heap.size 26 #[.slice A n c, .int .i64 a.lo, .int .i64 a.hi, .int .i64 a.cur, .int .i64 a.lim]) := Lib.hid bk_
      have HO : Hid (Blk w1 (w.heap.size + 1) 68 #[.int .i64 o.n, .int .i64 o.c]) := Lib.hid bk_
      have HL : Hid (Below w.heap.size w w1) := Lib.hid bl_
      have hs1 := HL.out.size
      clear hb
      have cHA := HA.out.cell
      have lHA := HA.out.lt
      have cHO := HO.out.cell
      have lHO := HO.out.lt
      go_wp2_with fail
      refine (HVa.out _ HL.out).mono ?_
      rintro e w2 ⟨rfl, hb⟩
      clear cHA lHA cHO lHO
      have hs2 := hb.size
      have HL' := Lib.hid (HL.out.trans (hb.mono HL.out.size)); clear HL; have HL := HL'; clear HL'
      have HA' := Lib.hid (HA.out.kept hb); clear HA; have HA := HA'; clear HA'
      have HO' := Lib.hid (HO.out.kept hb); clear HO; have HO := HO'; clear HO'
      clear hb
      have cHA := HA.out.cell
      have lHA := HA.out.lt
      have cHO := HO.out.cell
      have lHO := HO.out.lt
      go_wp2_with fail
      refine (HCo.out _).mono ?_
      rintro e w3 ⟨rfl, hb⟩
      clear cHA lHA cHO lHO
      have hs3 := hb.size
      have HL' := Lib.hid (HL.out.trans (hb.mono HL.out.size)); clear HL; have HL := HL'; clear HL'
      have HA' := Lib.hid (HA.out.kept hb); clear HA; have HA := HA'; clear HA'
      have HO' := Lib.hid (HO.out.kept hb); clear HO; have HO := HO'; clear HO'
      clear hb
      have cHA := HA.out.cell
      have lHA := HA.out.lt
      have cHO := HO.out.cell
      have lHO := HO.out.lt
      go_wp2_with fail
      refine (HAw.out _ HL.out).mono ?_
      rintro e w4 ⟨rfl, hb⟩
      clear cHA lHA cHO lHO
      have hs4 := hb.size
      have HL' := Lib.hid (HL.out.trans (hb.mono HL.out.size)); clear HL; have HL := HL'; clear HL'
      have HA' := Lib.hid (HA.out.kept hb); clear HA; have HA := HA'; clear HA'
      have HO' := Lib.hid (HO.out.kept hb); clear HO; have HO := HO'; clear HO'
      clear hb
      have cHA := HA.out.cell
      have lHA := HA.out.lt
      have cHO := HO.out.cell
      have lHO := HO.out.lt
      go_wp2_with fail
      go_ret
      exact ⟨rfl, HL.out⟩
    case pos =>
      rw [ho] at HCo
      have HOw := Lib.hid (fun W (hW : Below w.heap.size w W) => own_r w.heap.size A n c a W (hM.below hW) hW.size (by omega))
      have HCh := Lib.hid (fun W A c (hm : MsAt W W.heap.size A n a.m) (hc : n ≤ c) => Choose_any W.heap.size A n c a o W hm (Nat.le_refl _) hF hc)
      have HSt := Lib.hid (fun W A c (hm : MsAt W W.heap.size A n a.m) (hc : n ≤ c) => Step_any W.heap.size A n c a o W hm (Nat.le_refl _) hF hc)
      have HBo := Lib.hid (fun W A c (hm : MsAt W W.heap.size A n a.m) (hc : n ≤ c) => Bound_any W.heap.size A n c a o W hm (Nat.le_refl _) hF hc)
      have HIn := Lib.hid (fun W A n c l hr hn => ints_any W.heap.size A n c l W hr (Nat.le_refl _) hn)
      have HFt := Lib.hid (fun W A c (hm : MsAt W W.heap.size A n a.m) => told_r W.heap.size A n c (freeA a) W hm (Nat.le_refl _) (by omega))
      have HFo := Lib.hid (fun W A c (hm : MsAt W W.heap.size A n a.m) => own_r W.heap.size A n c (freeA a) W hm (Nat.le_refl _) (by omega))
      have HFc := Lib.hid (fun W A c (hm : MsAt W W.heap.size A n a.m) (hc : n ≤ c) => Choose_any W.heap.size A n c (freeA a) o W hm (Nat.le_refl _) (free_fit hF) hc)
      have hfr := free_ref hE ho
      have hce := cho_eq hE ho
      have hcf := cho_eq (free_ok hE) ho
      have hse := stp_eq hE ho
      rw [hce] at HCh HBo
      rw [hcf] at HFc
      rw [hse] at HSt
      have HEn := Lib.hid (And.intro hE (And.intro ho (And.intro hF hl)))
      have HMs := Lib.hid hM
      have hmf : (freeA a).m = a.m := rfl
      unfold OwnR at HFt HFo
      have hfa : freeA a = ⟨a.m, a.lo, a.hi, a.cur, 16⟩ := rfl
      rw [hfa] at HFt HFo HFc
      dsimp only at HFt HFo HFc
      rw [← hfa] at HFc
      have HFa := Lib.hid hfa
      clear hmf hfa hce hcf hse hM hnm hsh hF
      unfold StepRes at HSt
      rw [hl] at HSt
      obtain ⟨er, her⟩ : ∃ er, refE a o = er := ⟨_, rfl⟩
      obtain ⟨es, hes⟩ : ∃ es, stepE a o = es := ⟨_, rfl⟩
      obtain ⟨ef, hef⟩ : ∃ ef, refE (freeA a) o = ef := ⟨_, rfl⟩
      have HEr := Lib.hid her
      have HEs := Lib.hid hes
      have HEf := Lib.hid hef
      rw [her] at HCh HBo hfr
      rw [hef] at HFc hfr
      rw [hes] at HSt
      have HFr := Lib.hid hfr
      obtain ⟨bv, hbv⟩ : ∃ bv, bouV a o = bv := ⟨_, rfl⟩
      have HBv := Lib.hid hbv
      rw [hbv] at HBo
      obtain ⟨L, hL⟩ : ∃ L, choL a o = L := ⟨_, rfl⟩
      obtain ⟨L2, hL2⟩ : ∃ L2, choL (freeA a) o = L2 := ⟨_, rfl⟩
      have HLe := Lib.hid hL
      have HL2e := Lib.hid hL2
      rw [hL] at HCh
      rw [hL2] at HFc
      have hL8 : L.length ≤ 16 := by
        rw [← hL]
        unfold choL
        split
        · rename_i h0
          have hr := h0
          unfold choE at hr
          have hr2 := (or0_zero hr).2
          have := choice_len (fit_of hE) (order_zero ho).1.1 hr2
          have := (order_zero ho).1.2
          omega
        · simp
      have hL28 : L2.length ≤ 16 := by
        rw [← hL2]
        unfold choL
        split
        · rename_i h0
          have hr := h0
          unfold choE at hr
          have hr2 := (or0_zero hr).2
          have := choice_len (fit_of (free_ok hE)) (order_zero ho).1.1 hr2
          have := (order_zero ho).1.2
          omega
        · simp
      obtain ⟨ce, hce⟩ : ∃ ce, chsE a L = ce := ⟨_, rfl⟩
      obtain ⟨cv, hcv⟩ : ∃ cv, chsV a L = cv := ⟨_, rfl⟩
      have HCg := Lib.hid (fun W A c A2 n2 c2 (hm : MsAt W W.heap.size A n a.m) (hc : n ≤ c) (h2 : Reads W W.heap.size 1 A2 n2 (L.map (.int .i64))) hn2 => Changes_any W.heap.size W.heap.size A A2 n c n2 c2 a L W hm (Nat.le_refl _) HEn.out.2.2.1 hc h2 (Nat.le_refl _) hn2)
      rw [hce, hcv] at HCg
      have HCe := Lib.hid hce
      have HCv := Lib.hid hcv
      clear her hes hef hbv hL hL2 hce hcv hE ho hfr
      have h3 : es = 0 ∨ (er = 0 ∧ es ≠ 0) ∨ (er ≠ 0 ∧ es = er) := by
        by_cases h0 : er = 0
        · by_cases h1 : es = 0
          · exact .inl h1
          · exact .inr (.inl ⟨h0, h1⟩)
        · refine .inr (.inr ⟨h0, ?_⟩)
          rw [← HEs.out, ← HEr.out]
          exact stp_ref (by rw [HEr.out]; exact h0)
      rcases h3 with h3 | ⟨h0, h3⟩ | ⟨h0, h3⟩
      · skip
        as_aux_lemma =>
          subst h3
          have h0 : er = 0 := by rw [← HEr.out]; exact step_zero HEs.out
          subst h0
          have HS0 := Lib.hid (fun W A c hm hc => (HSt.out W A c hm hc).mono (fun e w' (h : _ ∧ _) => show ∃ g, e = .returned (.tuple #[.agg #[.slice (some ⟨g, 0, none⟩) n n, .int .i64 a.lo, .int .i64 a.hi, .int .i64 a.cur, .int .i64 a.lim], .int .i64 0]) ∧ Blk w' g 73 (mds (stepA a o).m).toArray ∧ Below W.heap.size W w' from by
            obtain ⟨hb, ⟨_, g, h1, h2, _⟩ | ⟨h1, _⟩⟩ := h
            · exact ⟨g, h1, h2, hb⟩
            · exact absurd rfl h1))
          clear HSt
          go_enter Tryz.func7, Tryz.ntmps7
          go_wp2_with fail
          refine (HAw.out _ bl_).mono ?_
          rintro e w1 ⟨rfl, hb⟩
          have HA : Hid (Blk w1 w.heap.size 26 #[.slice A n c, .int .i64 a.lo, .int .i64 a.hi, .int .i64 a.cur, .int .i64 a.lim]) := Lib.hid bk_
          have HO : Hid (Blk w1 (w.heap.size + 1) 68 #[.int .i64 o.n, .int .i64 o.c]) := Lib.hid bk_
          have HL : Hid (Below w.heap.size w w1) := Lib.hid bl_
          have hs1 := HL.out.size
          clear hb
          have cHA := HA.out.cell
          have lHA := HA.out.lt
          have cHO := HO.out.cell
          have lHO := HO.out.lt
          go_wp2_with fail
          refine (HVa.out _ HL.out).mono ?_
          rintro e w2 ⟨rfl, hb⟩
          clear cHA lHA cHO lHO
          have hs2 := hb.size
          have HL' := Lib.hid (HL.out.trans (hb.mono HL.out.size)); clear HL; have HL := HL'; clear HL'
          have HA' := Lib.hid (HA.out.kept hb); clear HA; have HA := HA'; clear HA'
          have HO' := Lib.hid (HO.out.kept hb); clear HO; have HO := HO'; clear HO'
          clear hb
          have cHA := HA.out.cell
          have lHA := HA.out.lt
          have cHO := HO.out.cell
          have lHO := HO.out.lt
          go_wp2_with fail
          refine (HCo.out _).mono ?_
          rintro e w3 ⟨rfl, hb⟩
          clear cHA lHA cHO lHO
          have hs3 := hb.size
          have HL' := Lib.hid (HL.out.trans (hb.mono HL.out.size)); clear HL; have HL := HL'; clear HL'
          have HA' := Lib.hid (HA.out.kept hb); clear HA; have HA := HA'; clear HA'
          have HO' := Lib.hid (HO.out.kept hb); clear HO; have HO := HO'; clear HO'
          clear hb
          have cHA := HA.out.cell
          have lHA := HA.out.lt
          have cHO := HO.out.cell
          have lHO := HO.out.lt
          go_wp2_with fail
          (refine wp_region_calm [] [0, 2] 7 (by kernel_rfl) rfl (by kernel_rfl) (by kernel_rfl) (by kernel_rfl) ?_; simp only [pickB, List.filterMap_cons, List.filterMap_nil, List.getElem?_toArray, List.getElem?_cons_zero, List.getElem?_cons_succ]; (repeat (first | ((first | (with_reducible refine quietL_plain rfl (fun K hK => ?_)) | (with_reducible refine quietL_want (by with_unfolding_all rfl) (fun K hK => ?_))); (apply Exists.intro; refine ⟨fun wx hx => ?_, ?_⟩; (· (have hcx := ifs_ex hx); simp [go_sem, *, ↓IntWalk.iteOmega] <;> (first | rfl | exact ⟨rfl, rfl⟩ | fail)); (simp only [Act.put, List.setIfInBounds_toArray, List.set_cons_zero, List.set_cons_succ]; refine hK _ ?_; clear hK K))) | ((with_reducible refine quietL_skip (by with_unfolding_all rfl) ?_); simp only [Act.put, List.setIfInBounds_toArray, List.set_cons_zero, List.set_cons_succ]))); refine quietL_nil ?_)
          (refine anyB_one (i := 1) (by kernel_rfl) rfl rfl ?_; intro w4 hb4 K hK; have hs4 := hb4.size; (try simp at hs4); go_wp2_with fail)
          refine (HOw.out _ (HL.out.trans (hb4.mono HL.out.size))).mono ?_
          rintro e w5 ⟨Ao, co, rfl, hm, hc, hb5⟩
          have hs5 := hb5.size
          have HMo := Lib.hid hm; have HKo := Lib.hid hc; clear hm hc
          (go_wp2; refine ⟨xs_, ?_⟩)
          (refine anyB_one (i := 3) (by kernel_rfl) rfl rfl ?_; intro w6 hb6 K hK; have hs6 := hb6.size; (try simp at hs6); go_wp2_with fail)
          refine (HCh.out _ _ _ (ms_kept HMo.out hb6) HKo.out).mono ?_
          rintro e w7 ⟨v5, rfl, hr, _, hb7⟩
          have hs7 := hb7.size
          obtain ⟨A5, c5, rfl, _, _, hrd⟩ := own_form hr
          have HRd := Lib.hid hrd
          clear hr hrd HMo HKo
          (go_wp2; refine ⟨xs_, ?_⟩)
          (refine anyB_quiet_at (by kernel_rfl) calm_panic xs_ 2 [4, 5, 6] _ _ (by kernel_rfl) (by decide +kernel) ?_; simp only [pickB, List.filterMap_cons, List.filterMap_nil, List.getElem?_toArray, List.getElem?_cons_zero, List.getElem?_cons_succ]; (repeat (first | ((first | (with_reducible refine quietL_plain rfl (fun K hK => ?_)) | (with_reducible refine quietL_want (by with_unfolding_all rfl) (fun K hK => ?_))); (apply Exists.intro; refine ⟨fun wx hx => ?_, ?_⟩; (· (have hcx := ifs_ex hx); simp [go_sem, *, ↓IntWalk.iteOmega] <;> (first | rfl | exact ⟨rfl, rfl⟩ | fail)); (simp only [Act.put, List.setIfInBounds_toArray, List.set_cons_zero, List.set_cons_succ]; refine hK _ ?_; clear hK K))) | ((with_reducible refine quietL_skip (by with_unfolding_all rfl) ?_); simp only [Act.put, List.setIfInBounds_toArray, List.set_cons_zero, List.set_cons_succ]))); refine quietL_nil ?_)
          (refine anyB_one (i := 7) (by kernel_rfl) rfl rfl ?_; intro w8 hb8 K hK; have hs8 := hb8.size; (try simp at hs8); go_wp2; refine ⟨xs_, ?_⟩)
          (refine anyB_one (i := 8) (by kernel_rfl) rfl rfl ?_; intro w9 hb9 K hK; have hs9 := hb9.size; (try simp at hs9); go_wp2; refine ⟨xs_, ?_⟩)
          (refine anyB_end (by kernel_rfl) ?_; intro w10 hb10; have hs10 := hb10.size; (try simp at hs10); simp only [Calm])
          have FS := Lib.hid ((((⟨HRd.out⟩ : RdI w7 A5 _ _).kept hb8).kept hb9).kept hb10)
          clear HRd
          have hb := hb4.trans ((hb5.trans ((hb6.trans ((hb7.trans ((hb8.trans ((hb9.trans ((hb10).mono hs9)).mono hs8)).mono hs7)).mono hs6)).mono hs5)).mono hs4)
          clear hb4 hb5 hb6 hb7 hb8 hb9 hb10 hs4 hs5 hs6 hs7 hs8 hs9 hs10
          clear cHA lHA cHO lHO
          have hs10 := hb.size
          have HL' := Lib.hid (HL.out.trans (hb.mono HL.out.size)); clear HL; have HL := HL'; clear HL'
          have HA' := Lib.hid (HA.out.kept hb); clear HA; have HA := HA'; clear HA'
          have HO' := Lib.hid (HO.out.kept hb); clear HO; have HO := HO'; clear HO'
          clear hb
          have cHA := HA.out.cell
          have lHA := HA.out.lt
          have cHO := HO.out.cell
          have lHO := HO.out.lt
          as_aux_lemma =>
            go_wp2_with fail
            go_cut [7, 8] (fun s7 s8 wx => ∃ b7 g : Nat, s7 = .pointer (some ⟨b7, 0, none⟩) ∧ s8 = .int .i64 0 ∧ Blk wx b7 35 #[.slice (some ⟨g, 0, none⟩) n n, .int .i64 a.lo, .int .i64 a.hi, .int .i64 a.cur, .int .i64 a.lim] ∧ Blk wx g 73 (mds (stepA a o).m).toArray ∧ Below w10.heap.size w10 wx)
            case first =>
              as_aux_lemma =>
                have HP := Lib.hid (Below.refl w10.heap.size w10)
                (refine wp_region_calm [] [0, 2] 8 (by kernel_rfl) rfl (by kernel_rfl) (by kernel_rfl) (by kernel_rfl) ?_; simp only [pickB, List.filterMap_cons, List.filterMap_nil, List.getElem?_toArray, List.getElem?_cons_zero, List.getElem?_cons_succ]; (repeat (first | ((first | (with_reducible refine quietL_plain rfl (fun K hK => ?_)) | (with_reducible refine quietL_want (by with_unfolding_all rfl) (fun K hK => ?_))); (apply Exists.intro; refine ⟨fun wx hx => ?_, ?_⟩; (· (have hcx := ifs_ex hx); simp [go_sem, *, ↓IntWalk.iteOmega] <;> (first | rfl | exact ⟨rfl, rfl⟩ | skip)); (simp only [Act.put, List.setIfInBounds_toArray, List.set_cons_zero, List.set_cons_succ]; refine hK _ ?_; clear hK K))) | ((with_reducible refine quietL_skip (by with_unfolding_all rfl) ?_); simp only [Act.put, List.setIfInBounds_toArray, List.set_cons_zero, List.set_cons_succ]))); refine quietL_nil ?_)
                refine anyB_two (i := 1) (j := 7) (by kernel_rfl) rfl rfl rfl rfl ?_ ?_
                · skip
                  intro wc hbc K hK
                  have hsc := hbc.size
                  (try simp at hsc)
                  replace HP := Lib.hid (HP.out.trans (hbc.mono HP.out.size))
                  (try replace BB := Lib.hid (BB.out.kept hbc))
                  (try replace HMo := Lib.hid (ms_kept HMo.out hbc))
                  go_wp2_with fail
                  refine (HOw.out _ (HL.out.trans (HP.out.mono HL.out.size))).mono ?_
                  rintro e wd ⟨Ao, co, rfl, hm, hc, hbd⟩
                  have hsd := hbd.size
                  have HMo := Lib.hid hm; have HCo2 := Lib.hid hc; clear hm hc
                  replace HP := Lib.hid (HP.out.trans (hbd.mono HP.out.size))
                  (try replace BB := Lib.hid (BB.out.kept hbd))
                  go_wp2
                  refine ⟨xs_, ?_⟩
                  refine anyB_two (i := 3) (j := 7) (by kernel_rfl) rfl rfl rfl rfl ?_ ?_
                  · skip
                    intro we hbe K hK
                    have hse := hbe.size
                    (try simp at hse)
                    replace HP := Lib.hid (HP.out.trans (hbe.mono HP.out.size))
                    (try replace BB := Lib.hid (BB.out.kept hbe))
                    (try replace HMo := Lib.hid (ms_kept HMo.out hbe))
                    go_wp2_with fail
                    refine (HS0.out _ _ _ HMo.out HCo2.out).mono ?_
                    rintro e wf ⟨g, rfl, hg, hbf⟩
                    have hsf := hbf.size
                    clear HMo HCo2; have HG := Lib.hid hg; clear hg
                    replace HP := Lib.hid (HP.out.trans (hbf.mono HP.out.size))
                    (try replace BB := Lib.hid (BB.out.kept hbf))
                    go_wp2
                    refine ⟨xs_, ?_⟩
                    (refine anyB_quiet_at (by kernel_rfl) calm_panic xs_ 3 [4, 5, 6] _ _ (by kernel_rfl) (by decide +kernel) ?_; simp only [pickB, List.filterMap_cons, List.filterMap_nil, List.getElem?_toArray, List.getElem?_cons_zero, List.getElem?_cons_succ]; (repeat (first | ((first | (with_reducible refine quietL_plain rfl (fun K hK => ?_)) | (with_reducible refine quietL_want (by with_unfolding_all rfl) (fun K hK => ?_))); (apply Exists.intro; refine ⟨fun wx hx => ?_, ?_⟩; (· (have hcx := ifs_ex hx); simp [go_sem, *, ↓IntWalk.iteOmega] <;> (first | rfl | exact ⟨rfl, rfl⟩ | fail)); (simp only [Act.put, List.setIfInBounds_toArray, List.set_cons_zero, List.set_cons_succ]; refine hK _ ?_; clear hK K))) | ((with_reducible refine quietL_skip (by with_unfolding_all rfl) ?_); simp only [Act.put, List.setIfInBounds_toArray, List.set_cons_zero, List.set_cons_succ]))); refine quietL_nil ?_)
                    refine anyB_one (i := 7) (by kernel_rfl) rfl rfl ?_
                    intro wh hbh K hK
                    have hsh := hbh.size
                    (try simp at hsh)
                    replace HP := Lib.hid (HP.out.trans (hbh.mono HP.out.size))
                    (try replace HMo := Lib.hid (ms_kept HMo.out hbh))
                    (try replace HG := Lib.hid (HG.out.kept hbh))
                    have hbx : Below wh.heap.size wh (wh.alloc (.cells #[.slice none 0 0, .int .i64 0, .int .i64 0, .int .i64 0, .int .i64 0] 35)) := (Below.refl _ _).alloc (Nat.le_refl _) _
                    replace HP := Lib.hid (HP.out.trans (hbx.mono HP.out.size))
                    (try replace HMo := Lib.hid (ms_kept HMo.out hbx))
                    (try replace HG := Lib.hid (HG.out.kept hbx))
                    have BB := Lib.hid (Blk.new wh 35 #[.slice none 0 0, .int .i64 0, .int .i64 0, .int .i64 0, .int .i64 0])
                    have hwh := HP.out.size
                    clear hbx
                    go_wp2
                    refine ⟨xs_, ?_⟩
                    refine anyB_one (i := 8) (by kernel_rfl) rfl rfl ?_
                    intro wi hbi K hK
                    have hsi := hbi.size
                    (try simp at hsi)
                    replace HP := Lib.hid (HP.out.trans (hbi.mono HP.out.size))
                    replace BB := Lib.hid (BB.out.kept hbi)
                    (try replace HG := Lib.hid (HG.out.kept hbi))
                    have cB := BB.out.cell
                    have fB := BB.out.frozen
                    have lB := BB.out.lt
                    go_wp2
                    refine ⟨xs_, ?_⟩
                    have BC := Lib.hid (put5_blk (v0 := .slice (some ⟨g, 0, none⟩) n n) (v1 := .int .i64 a.lo) (v2 := .int .i64 a.hi) (v3 := .int .i64 a.cur) (v4 := .int .i64 a.lim) BB.out)
                    have HPc := Lib.hid (put5_low (b := wh.heap.size) (v0 := .slice (some ⟨g, 0, none⟩) n n) (v1 := .int .i64 a.lo) (v2 := .int .i64 a.hi) (v3 := .int .i64 a.cur) (v4 := .int .i64 a.lim) HP.out (by omega))
                    (try have HGc := Lib.hid (put5_far (b := wh.heap.size) (v0 := .slice (some ⟨g, 0, none⟩) n n) (v1 := .int .i64 a.lo) (v2 := .int .i64 a.hi) (v3 := .int .i64 a.cur) (v4 := .int .i64 a.lim) HG.out (blk_ne HG.out BB.out (by decide))))
                    clear cB fB lB HP BB
                    refine anyB_one (i := 9) (by kernel_rfl) rfl rfl ?_
                    intro wj hbj K hK
                    have hsj := hbj.size
                    (try simp at hsj)
                    go_wp2
                    refine ⟨xs_, ?_⟩
                    refine anyB_end (by kernel_rfl) ?_
                    intro wk hbk
                    have hsk := hbk.size
                    simp only [Calm]
                    have BE := Lib.hid ((BC.out.kept hbj).kept hbk)
                    have HPe := Lib.hid ((HPc.out.trans (hbj.mono HPc.out.size)).trans (hbk.mono (by have := HPc.out.size; omega)))
                    (try have HGe := Lib.hid ((HGc.out.kept hbj).kept hbk))
                    go_wp2_with fail
                    go_meet
                    case rel => exact ⟨wh.heap.size, g, rfl, rfl, BE.out, HGe.out, HPe.out⟩
                  · skip
                    intro wh hbh K hK
                    have hsh := hbh.size
                    (try simp at hsh)
                    replace HP := Lib.hid (HP.out.trans (hbh.mono HP.out.size))
                    (try replace HMo := Lib.hid (ms_kept HMo.out hbh))
                    (try replace HG := Lib.hid (HG.out.kept hbh))
                    have hbx : Below wh.heap.size wh (wh.alloc (.cells #[.slice none 0 0, .int .i64 0, .int .i64 0, .int .i64 0, .int .i64 0] 35)) := (Below.refl _ _).alloc (Nat.le_refl _) _
                    replace HP := Lib.hid (HP.out.trans (hbx.mono HP.out.size))
                    (try replace HMo := Lib.hid (ms_kept HMo.out hbx))
                    (try replace HG := Lib.hid (HG.out.kept hbx))
                    have BB := Lib.hid (Blk.new wh 35 #[.slice none 0 0, .int .i64 0, .int .i64 0, .int .i64 0, .int .i64 0])
                    have hwh := HP.out.size
                    clear hbx
                    go_wp2
                    refine ⟨xs_, ?_⟩
                    refine anyB_one (i := 3) (by kernel_rfl) rfl rfl ?_
                    intro we hbe K hK
                    have hse := hbe.size
                    (try simp at hse)
                    replace HP := Lib.hid (HP.out.trans (hbe.mono HP.out.size))
                    (try replace BB := Lib.hid (BB.out.kept hbe))
                    (try replace HMo := Lib.hid (ms_kept HMo.out hbe))
                    go_wp2_with fail
                    refine (HS0.out _ _ _ HMo.out HCo2.out).mono ?_
                    rintro e wf ⟨g, rfl, hg, hbf⟩
                    have hsf := hbf.size
                    clear HMo HCo2; have HG := Lib.hid hg; clear hg
                    replace HP := Lib.hid (HP.out.trans (hbf.mono HP.out.size))
                    (try replace BB := Lib.hid (BB.out.kept hbf))
                    go_wp2
                    refine ⟨xs_, ?_⟩
                    (refine anyB_quiet_at (by kernel_rfl) calm_panic xs_ 2 [4, 5, 6] _ _ (by kernel_rfl) (by decide +kernel) ?_; simp only [pickB, List.filterMap_cons, List.filterMap_nil, List.getElem?_toArray, List.getElem?_cons_zero, List.getElem?_cons_succ]; (repeat (first | ((first | (with_reducible refine quietL_plain rfl (fun K hK => ?_)) | (with_reducible refine quietL_want (by with_unfolding_all rfl) (fun K hK => ?_))); (apply Exists.intro; refine ⟨fun wx hx => ?_, ?_⟩; (· (have hcx := ifs_ex hx); simp [go_sem, *, ↓IntWalk.iteOmega] <;> (first | rfl | exact ⟨rfl, rfl⟩ | fail)); (simp only [Act.put, List.setIfInBounds_toArray, List.set_cons_zero, List.set_cons_succ]; refine hK _ ?_; clear hK K))) | ((with_reducible refine quietL_skip (by with_unfolding_all rfl) ?_); simp only [Act.put, List.setIfInBounds_toArray, List.set_cons_zero, List.set_cons_succ]))); refine quietL_nil ?_)
                    refine anyB_one (i := 8) (by kernel_rfl) rfl rfl ?_
                    intro wi hbi K hK
                    have hsi := hbi.size
                    (try simp at hsi)
                    replace HP := Lib.hid (HP.out.trans (hbi.mono HP.out.size))
                    replace BB := Lib.hid (BB.out.kept hbi)
                    (try replace HG := Lib.hid (HG.out.kept hbi))
                    have cB := BB.out.cell
                    have fB := BB.out.frozen
                    have lB := BB.out.lt
                    go_wp2
                    refine ⟨xs_, ?_⟩
                    have BC := Lib.hid (put5_blk (v0 := .slice (some ⟨g, 0, none⟩) n n) (v1 := .int .i64 a.lo) (v2 := .int .i64 a.hi) (v3 := .int .i64 a.cur) (v4 := .int .i64 a.lim) BB.out)
                    have HPc := Lib.hid (put5_low (b := wh.heap.size) (v0 := .slice (some ⟨g, 0, none⟩) n n) (v1 := .int .i64 a.lo) (v2 := .int .i64 a.hi) (v3 := .int .i64 a.cur) (v4 := .int .i64 a.lim) HP.out (by omega))
                    (try have HGc := Lib.hid (put5_far (b := wh.heap.size) (v0 := .slice (some ⟨g, 0, none⟩) n n) (v1 := .int .i64 a.lo) (v2 := .int .i64 a.hi) (v3 := .int .i64 a.cur) (v4 := .int .i64 a.lim) HG.out (blk_ne HG.out BB.out (by decide))))
                    clear cB fB lB HP BB
                    refine anyB_one (i := 9) (by kernel_rfl) rfl rfl ?_
                    intro wj hbj K hK
                    have hsj := hbj.size
                    (try simp at hsj)
                    go_wp2
                    refine ⟨xs_, ?_⟩
                    refine anyB_end (by kernel_rfl) ?_
                    intro wk hbk
                    have hsk := hbk.size
                    simp only [Calm]
                    have BE := Lib.hid ((BC.out.kept hbj).kept hbk)
                    have HPe := Lib.hid ((HPc.out.trans (hbj.mono HPc.out.size)).trans (hbk.mono (by have := HPc.out.size; omega)))
                    (try have HGe := Lib.hid ((HGc.out.kept hbj).kept hbk))
                    go_wp2_with fail
                    go_meet
                    case rel => exact ⟨wh.heap.size, g, rfl, rfl, BE.out, HGe.out, HPe.out⟩
                · skip
                  intro wh hbh K hK
                  have hsh := hbh.size
                  (try simp at hsh)
                  replace HP := Lib.hid (HP.out.trans (hbh.mono HP.out.size))
                  (try replace HMo := Lib.hid (ms_kept HMo.out hbh))
                  (try replace HG := Lib.hid (HG.out.kept hbh))
                  have hbx : Below wh.heap.size wh (wh.alloc (.cells #[.slice none 0 0, .int .i64 0, .int .i64 0, .int .i64 0, .int .i64 0] 35)) := (Below.refl _ _).alloc (Nat.le_refl _) _
                  replace HP := Lib.hid (HP.out.trans (hbx.mono HP.out.size))
                  (try replace HMo := Lib.hid (ms_kept HMo.out hbx))
                  (try replace HG := Lib.hid (HG.out.kept hbx))
                  have BB := Lib.hid (Blk.new wh 35 #[.slice none 0 0, .int .i64 0, .int .i64 0, .int .i64 0, .int .i64 0])
                  have hwh := HP.out.size
                  clear hbx
                  go_wp2
                  refine ⟨xs_, ?_⟩
                  refine anyB_one (i := 1) (by kernel_rfl) rfl rfl ?_
                  intro wc hbc K hK
                  have hsc := hbc.size
                  (try simp at hsc)
                  replace HP := Lib.hid (HP.out.trans (hbc.mono HP.out.size))
                  (try replace BB := Lib.hid (BB.out.kept hbc))
                  (try replace HMo := Lib.hid (ms_kept HMo.out hbc))
                  go_wp2_with fail
                  refine (HOw.out _ (HL.out.trans (HP.out.mono HL.out.size))).mono ?_
                  rintro e wd ⟨Ao, co, rfl, hm, hc, hbd⟩
                  have hsd := hbd.size
                  have HMo := Lib.hid hm; have HCo2 := Lib.hid hc; clear hm hc
                  replace HP := Lib.hid (HP.out.trans (hbd.mono HP.out.size))
                  (try replace BB := Lib.hid (BB.out.kept hbd))
                  go_wp2
                  refine ⟨xs_, ?_⟩
                  refine anyB_one (i := 3) (by kernel_rfl) rfl rfl ?_
                  intro we hbe K hK
                  have hse := hbe.size
                  (try simp at hse)
                  replace HP := Lib.hid (HP.out.trans (hbe.mono HP.out.size))
                  (try replace BB := Lib.hid (BB.out.kept hbe))
                  (try replace HMo := Lib.hid (ms_kept HMo.out hbe))
                  go_wp2_with fail
                  refine (HS0.out _ _ _ HMo.out HCo2.out).mono ?_
                  rintro e wf ⟨g, rfl, hg, hbf⟩
                  have hsf := hbf.size
                  clear HMo HCo2; have HG := Lib.hid hg; clear hg
                  replace HP := Lib.hid (HP.out.trans (hbf.mono HP.out.size))
                  (try replace BB := Lib.hid (BB.out.kept hbf))
                  go_wp2
                  refine ⟨xs_, ?_⟩
                  (refine anyB_quiet_at (by kernel_rfl) calm_panic xs_ 2 [4, 5, 6] _ _ (by kernel_rfl) (by decide +kernel) ?_; simp only [pickB, List.filterMap_cons, List.filterMap_nil, List.getElem?_toArray, List.getElem?_cons_zero, List.getElem?_cons_succ]; (repeat (first | ((first | (with_reducible refine quietL_plain rfl (fun K hK => ?_)) | (with_reducible refine quietL_want (by with_unfolding_all rfl) (fun K hK => ?_))); (apply Exists.intro; refine ⟨fun wx hx => ?_, ?_⟩; (· (have hcx := ifs_ex hx); simp [go_sem, *, ↓IntWalk.iteOmega] <;> (first | rfl | exact ⟨rfl, rfl⟩ | fail)); (simp only [Act.put, List.setIfInBounds_toArray, List.set_cons_zero, List.set_cons_succ]; refine hK _ ?_; clear hK K))) | ((with_reducible refine quietL_skip (by with_unfolding_all rfl) ?_); simp only [Act.put, List.setIfInBounds_toArray, List.set_cons_zero, List.set_cons_succ]))); refine quietL_nil ?_)
                  refine anyB_one (i := 8) (by kernel_rfl) rfl rfl ?_
                  intro wi hbi K hK
                  have hsi := hbi.size
                  (try simp at hsi)
                  replace HP := Lib.hid (HP.out.trans (hbi.mono HP.out.size))
                  replace BB := Lib.hid (BB.out.kept hbi)
                  (try replace HG := Lib.hid (HG.out.kept hbi))
                  have cB := BB.out.cell
                  have fB := BB.out.frozen
                  have lB := BB.out.lt
                  go_wp2
                  refine ⟨xs_, ?_⟩
                  have BC := Lib.hid (put5_blk (v0 := .slice (some ⟨g, 0, none⟩) n n) (v1 := .int .i64 a.lo) (v2 := .int .i64 a.hi) (v3 := .int .i64 a.cur) (v4 := .int .i64 a.lim) BB.out)
                  have HPc := Lib.hid (put5_low (b := wh.heap.size) (v0 := .slice (some ⟨g, 0, none⟩) n n) (v1 := .int .i64 a.lo) (v2 := .int .i64 a.hi) (v3 := .int .i64 a.cur) (v4 := .int .i64 a.lim) HP.out (by omega))
                  (try have HGc := Lib.hid (put5_far (b := wh.heap.size) (v0 := .slice (some ⟨g, 0, none⟩) n n) (v1 := .int .i64 a.lo) (v2 := .int .i64 a.hi) (v3 := .int .i64 a.cur) (v4 := .int .i64 a.lim) HG.out (blk_ne HG.out BB.out (by decide))))
                  clear cB fB lB HP BB
                  refine anyB_one (i := 9) (by kernel_rfl) rfl rfl ?_
                  intro wj hbj K hK
                  have hsj := hbj.size
                  (try simp at hsj)
                  go_wp2
                  refine ⟨xs_, ?_⟩
                  refine anyB_end (by kernel_rfl) ?_
                  intro wk hbk
                  have hsk := hbk.size
                  simp only [Calm]
                  have BE := Lib.hid ((BC.out.kept hbj).kept hbk)
                  have HPe := Lib.hid ((HPc.out.trans (hbj.mono HPc.out.size)).trans (hbk.mono (by have := HPc.out.size; omega)))
                  (try have HGe := Lib.hid ((HGc.out.kept hbj).kept hbk))
                  go_wp2_with fail
                  go_meet
                  case rel => exact ⟨wh.heap.size, g, rfl, rfl, BE.out, HGe.out, HPe.out⟩
            rename World => w11
            obtain ⟨b7, g, rfl, rfl, h7, hg, hb⟩ := hcut
            have HN := Lib.hid h7
            have HG := Lib.hid hg
            clear h7 hg
            clear HS0
            clear cHA lHA cHO lHO
            have hs11 := hb.size
            have HL' := Lib.hid (HL.out.trans (hb.mono HL.out.size)); clear HL; have HL := HL'; clear HL'
            have HA' := Lib.hid (HA.out.kept hb); clear HA; have HA := HA'; clear HA'
            have HO' := Lib.hid (HO.out.kept hb); clear HO; have HO := HO'; clear HO'
            have FS' := Lib.hid (FS.out.kept hb); clear FS; have FS := FS'; clear FS'
            clear hb
            have cHA := HA.out.cell
            have lHA := HA.out.lt
            have cHO := HO.out.cell
            have lHO := HO.out.lt
            have cHN := HN.out.cell
            have lHN := HN.out.lt
            as_aux_lemma =>
              go_wp2_with fail
              (refine wp_region_calm [] [0, 2] 7 (by kernel_rfl) rfl (by kernel_rfl) (by kernel_rfl) (by kernel_rfl) ?_; simp only [pickB, List.filterMap_cons, List.filterMap_nil, List.getElem?_toArray, List.getElem?_cons_zero, List.getElem?_cons_succ]; (repeat (first | ((first | (with_reducible refine quietL_plain rfl (fun K hK => ?_)) | (with_reducible refine quietL_want (by with_unfolding_all rfl) (fun K hK => ?_))); (apply Exists.intro; refine ⟨fun wx hx => ?_, ?_⟩; (· (have hcx := ifs_ex hx); simp [go_sem, *, ↓IntWalk.iteOmega] <;> (first | rfl | exact ⟨rfl, rfl⟩ | fail)); (simp only [Act.put, List.setIfInBounds_toArray, List.set_cons_zero, List.set_cons_succ]; refine hK _ ?_; clear hK K))) | ((with_reducible refine quietL_skip (by with_unfolding_all rfl) ?_); simp only [Act.put, List.setIfInBounds_toArray, List.set_cons_zero, List.set_cons_succ]))); refine quietL_nil ?_)
              (refine anyB_one (i := 1) (by kernel_rfl) rfl rfl ?_; intro w12 hb12 K hK; have hs12 := hb12.size; (try simp at hs12); go_wp2_with fail)
              refine (HOw.out _ (HL.out.trans (hb12.mono HL.out.size))).mono ?_
              rintro e w13 ⟨Ao, co, rfl, hm, hc, hb13⟩
              have hs13 := hb13.size
              have HMo := Lib.hid hm; have HKo := Lib.hid hc; clear hm hc
              (go_wp2; refine ⟨xs_, ?_⟩)
              (refine anyB_one (i := 3) (by kernel_rfl) rfl rfl ?_; intro w14 hb14 K hK; have hs14 := hb14.size; (try simp at hs14); go_wp2_with fail)
              refine (HBo.out _ _ _ (ms_kept HMo.out hb14) HKo.out).mono ?_
              rintro e w15 ⟨rfl, hb15⟩
              have hs15 := hb15.size
              clear HMo HKo
              (go_wp2; refine ⟨xs_, ?_⟩)
              (refine anyB_quiet_at (by kernel_rfl) calm_panic xs_ 2 [4, 5, 6] _ _ (by kernel_rfl) (by decide +kernel) ?_; simp only [pickB, List.filterMap_cons, List.filterMap_nil, List.getElem?_toArray, List.getElem?_cons_zero, List.getElem?_cons_succ]; (repeat (first | ((first | (with_reducible refine quietL_plain rfl (fun K hK => ?_)) | (with_reducible refine quietL_want (by with_unfolding_all rfl) (fun K hK => ?_))); (apply Exists.intro; refine ⟨fun wx hx => ?_, ?_⟩; (· (have hcx := ifs_ex hx); simp [go_sem, *, ↓IntWalk.iteOmega] <;> (first | rfl | exact ⟨rfl, rfl⟩ | fail)); (simp only [Act.put, List.setIfInBounds_toArray, List.set_cons_zero, List.set_cons_succ]; refine hK _ ?_; clear hK K))) | ((with_reducible refine quietL_skip (by with_unfolding_all rfl) ?_); simp only [Act.put, List.setIfInBounds_toArray, List.set_cons_zero, List.set_cons_succ]))); refine quietL_nil ?_)
              (refine anyB_one (i := 7) (by kernel_rfl) rfl rfl ?_; intro w16 hb16 K hK; have hs16 := hb16.size; (try simp at hs16); go_wp2; refine ⟨xs_, ?_⟩)
              (refine anyB_one (i := 8) (by kernel_rfl) rfl rfl ?_; intro w17 hb17 K hK; have hs17 := hb17.size; (try simp at hs17); go_wp2; refine ⟨xs_, ?_⟩)
              (refine anyB_end (by kernel_rfl) ?_; intro w18 hb18; have hs18 := hb18.size; (try simp at hs18); simp only [Calm])
              have hb := hb12.trans ((hb13.trans ((hb14.trans ((hb15.trans ((hb16.trans ((hb17.trans ((hb18).mono hs17)).mono hs16)).mono hs15)).mono hs14)).mono hs13)).mono hs12)
              clear hb12 hb13 hb14 hb15 hb16 hb17 hb18 hs12 hs13 hs14 hs15 hs16 hs17 hs18
              clear cHA lHA cHO lHO cHN lHN
              have hs18 := hb.size
              have HL' := Lib.hid (HL.out.trans (hb.mono HL.out.size)); clear HL; have HL := HL'; clear HL'
              have HA' := Lib.hid (HA.out.kept hb); clear HA; have HA := HA'; clear HA'
              have HO' := Lib.hid (HO.out.kept hb); clear HO; have HO := HO'; clear HO'
              have FS' := Lib.hid (FS.out.kept hb); clear FS; have FS := FS'; clear FS'
              have HN' := Lib.hid (HN.out.kept hb); clear HN; have HN := HN'; clear HN'
              have HG' := Lib.hid (HG.out.kept hb); clear HG; have HG := HG'; clear HG'
              clear hb
              have cHA := HA.out.cell
              have lHA := HA.out.lt
              have cHO := HO.out.cell
              have lHO := HO.out.lt
              have cHN := HN.out.cell
              have lHN := HN.out.lt
              as_aux_lemma =>
                go_wp2_with fail
                refine (HOw.out _ HL.out).mono ?_
                rintro e w19 ⟨A19, c19, rfl, hm, hc, hb⟩
                have HM19 := Lib.hid hm; have HC19 := Lib.hid hc; clear hm hc
                clear cHA lHA cHO lHO cHN lHN
                have hs19 := hb.size
                have HL' := Lib.hid (HL.out.trans (hb.mono HL.out.size)); clear HL; have HL := HL'; clear HL'
                have HA' := Lib.hid (HA.out.kept hb); clear HA; have HA := HA'; clear HA'
                have HO' := Lib.hid (HO.out.kept hb); clear HO; have HO := HO'; clear HO'
                have FS' := Lib.hid (FS.out.kept hb); clear FS; have FS := FS'; clear FS'
                have HN' := Lib.hid (HN.out.kept hb); clear HN; have HN := HN'; clear HN'
                have HG' := Lib.hid (HG.out.kept hb); clear HG; have HG := HG'; clear HG'
                clear hb
                have cHA := HA.out.cell
                have lHA := HA.out.lt
                have cHO := HO.out.cell
                have lHO := HO.out.lt
                have cHN := HN.out.cell
                have lHN := HN.out.lt
                go_wp2_with fail
                refine (HIn.out _ _ _ _ _ FS.out.out (by omega)).mono ?_
                rintro e w20 ⟨A20, c20, rfl, hrd, hb⟩
                have HR20 := Lib.hid hrd; clear hrd; have HM192 := Lib.hid (ms_kept HM19.out hb); clear HM19
                clear cHA lHA cHO lHO cHN lHN
                have hs20 := hb.size
                have HL' := Lib.hid (HL.out.trans (hb.mono HL.out.size)); clear HL; have HL := HL'; clear HL'
                have HA' := Lib.hid (HA.out.kept hb); clear HA; have HA := HA'; clear HA'
                have HO' := Lib.hid (HO.out.kept hb); clear HO; have HO := HO'; clear HO'
                have FS' := Lib.hid (FS.out.kept hb); clear FS; have FS := FS'; clear FS'
                have HN' := Lib.hid (HN.out.kept hb); clear HN; have HN := HN'; clear HN'
                have HG' := Lib.hid (HG.out.kept hb); clear HG; have HG := HG'; clear HG'
                clear hb
                have cHA := HA.out.cell
                have lHA := HA.out.lt
                have cHO := HO.out.cell
                have lHO := HO.out.lt
                have cHN := HN.out.cell
                have lHN := HN.out.lt
                go_wp2_with fail
                refine (HCg.out _ _ _ _ _ _ HM192.out HC19.out HR20.out (by omega)).mono ?_
                rintro e w21 ⟨rfl, hb⟩
                clear HM192 HC19 HR20
                clear cHA lHA cHO lHO cHN lHN
                have hs21 := hb.size
                have HL' := Lib.hid (HL.out.trans (hb.mono HL.out.size)); clear HL; have HL := HL'; clear HL'
                have HA' := Lib.hid (HA.out.kept hb); clear HA; have HA := HA'; clear HA'
                have HO' := Lib.hid (HO.out.kept hb); clear HO; have HO := HO'; clear HO'
                have FS' := Lib.hid (FS.out.kept hb); clear FS; have FS := FS'; clear FS'
                have HN' := Lib.hid (HN.out.kept hb); clear HN; have HN := HN'; clear HN'
                have HG' := Lib.hid (HG.out.kept hb); clear HG; have HG := HG'; clear HG'
                clear hb
                have cHA := HA.out.cell
                have lHA := HA.out.lt
                have cHO := HO.out.cell
                have lHO := HO.out.lt
                have cHN := HN.out.cell
                have lHN := HN.out.lt
                go_wp2_with fail
                refine (HOw.out _ HL.out).mono ?_
                rintro e w22 ⟨A22, c22, rfl, hm, hc, hb⟩
                have HM22 := Lib.hid hm; have HC22 := Lib.hid hc; clear hm hc
                clear cHA lHA cHO lHO cHN lHN
                have hs22 := hb.size
                have HL' := Lib.hid (HL.out.trans (hb.mono HL.out.size)); clear HL; have HL := HL'; clear HL'
                have HA' := Lib.hid (HA.out.kept hb); clear HA; have HA := HA'; clear HA'
                have HO' := Lib.hid (HO.out.kept hb); clear HO; have HO := HO'; clear HO'
                have FS' := Lib.hid (FS.out.kept hb); clear FS; have FS := FS'; clear FS'
                have HN' := Lib.hid (HN.out.kept hb); clear HN; have HN := HN'; clear HN'
                have HG' := Lib.hid (HG.out.kept hb); clear HG; have HG := HG'; clear HG'
                clear hb
                have cHA := HA.out.cell
                have lHA := HA.out.lt
                have cHO := HO.out.cell
                have lHO := HO.out.lt
                have cHN := HN.out.cell
                have lHN := HN.out.lt
                go_upto_region 11 with fail
                refine wp_world ?_
                intro w23 hW13
                have hb : Below w22.heap.size w22 w23 := by rw [hW13]; exact (Below.refl _ _).alloc (Nat.le_refl _) _
                have HX := Lib.hid (show Blk w23 w22.heap.size 35 #[.slice A22 n c22, .int .i64 a.lo, .int .i64 a.hi, .int .i64 a.cur, .int .i64 16] from by rw [hW13]; exact Blk.new _ _ _)
                have HM222 := Lib.hid (ms_kept HM22.out hb)
                clear hW13 HM22 HC22
                clear cHA lHA cHO lHO cHN lHN
                have hs23 := hb.size
                have HL' := Lib.hid (HL.out.trans (hb.mono HL.out.size)); clear HL; have HL := HL'; clear HL'
                have HA' := Lib.hid (HA.out.kept hb); clear HA; have HA := HA'; clear HA'
                have HO' := Lib.hid (HO.out.kept hb); clear HO; have HO := HO'; clear HO'
                have FS' := Lib.hid (FS.out.kept hb); clear FS; have FS := FS'; clear FS'
                have HN' := Lib.hid (HN.out.kept hb); clear HN; have HN := HN'; clear HN'
                have HG' := Lib.hid (HG.out.kept hb); clear HG; have HG := HG'; clear HG'
                clear hb
                have cHA := HA.out.cell
                have lHA := HA.out.lt
                have cHO := HO.out.cell
                have lHO := HO.out.lt
                have cHN := HN.out.cell
                have lHN := HN.out.lt
                have cX := HX.out.cell
                have lX := HX.out.lt
                as_aux_lemma =>
                  (refine wp_region_calm [] [0, 3] 8 (by kernel_rfl) rfl (by kernel_rfl) (by kernel_rfl) (by kernel_rfl) ?_; simp only [pickB, List.filterMap_cons, List.filterMap_nil, List.getElem?_toArray, List.getElem?_cons_zero, List.getElem?_cons_succ]; (repeat (first | ((first | (with_reducible refine quietL_plain rfl (fun K hK => ?_)) | (with_reducible refine quietL_want (by with_unfolding_all rfl) (fun K hK => ?_))); (apply Exists.intro; refine ⟨fun wx hx => ?_, ?_⟩; (· (have hcx := ifs_ex hx); simp [go_sem, *, ↓IntWalk.iteOmega] <;> (first | rfl | exact ⟨rfl, rfl⟩ | fail)); (simp only [Act.put, List.setIfInBounds_toArray, List.set_cons_zero, List.set_cons_succ]; refine hK _ ?_; clear hK K))) | ((with_reducible refine quietL_skip (by with_unfolding_all rfl) ?_); simp only [Act.put, List.setIfInBounds_toArray, List.set_cons_zero, List.set_cons_succ]))); refine quietL_nil ?_)
                  (refine anyB_one (i := 1) (by kernel_rfl) rfl rfl ?_; intro w24 hb24 K hK; have hs24 := hb24.size; (try simp at hs24); go_wp2_with fail)
                  refine (HFt.out _ _ _ (ms_kept HM222.out hb24)).mono ?_
                  rintro e w25 ⟨At, ct, rfl, hm, _, hb25⟩
                  have hs25 := hb25.size
                  have HMt := Lib.hid hm; clear hm
                  (go_wp2; refine ⟨xs_, ?_⟩)
                  (refine anyB_one (i := 2) (by kernel_rfl) rfl rfl ?_; intro w26 hb26 K hK; have hs26 := hb26.size; (try simp at hs26); go_wp2_with fail)
                  refine (HFo.out _ _ _ (ms_kept HMt.out hb26)).mono ?_
                  rintro e w27 ⟨Ao, co, rfl, hm, hc, hb27⟩
                  have hs27 := hb27.size
                  have HMo := Lib.hid hm; have HKo := Lib.hid hc; clear hm hc HMt
                  (go_wp2; refine ⟨xs_, ?_⟩)
                  (refine anyB_one (i := 4) (by kernel_rfl) rfl rfl ?_; intro w28 hb28 K hK; have hs28 := hb28.size; (try simp at hs28); go_wp2_with fail)
                  refine (HFc.out _ _ _ (ms_kept HMo.out hb28) HKo.out).mono ?_
                  rintro e w29 ⟨v14, rfl, hr, _, hb29⟩
                  have hs29 := hb29.size
                  obtain ⟨A14, c14, rfl, _, _, hrd⟩ := own_form hr
                  have HRd := Lib.hid hrd
                  clear hr hrd HMo HKo
                  (go_wp2; refine ⟨xs_, ?_⟩)
                  (refine anyB_quiet_at (by kernel_rfl) calm_panic xs_ 2 [5, 6, 7] _ _ (by kernel_rfl) (by decide +kernel) ?_; simp only [pickB, List.filterMap_cons, List.filterMap_nil, List.getElem?_toArray, List.getElem?_cons_zero, List.getElem?_cons_succ]; (repeat (first | ((first | (with_reducible refine quietL_plain rfl (fun K hK => ?_)) | (with_reducible refine quietL_want (by with_unfolding_all rfl) (fun K hK => ?_))); (apply Exists.intro; refine ⟨fun wx hx => ?_, ?_⟩; (· (have hcx := ifs_ex hx); simp [go_sem, *, ↓IntWalk.iteOmega] <;> (first | rfl | exact ⟨rfl, rfl⟩ | fail)); (simp only [Act.put, List.setIfInBounds_toArray, List.set_cons_zero, List.set_cons_succ]; refine hK _ ?_; clear hK K))) | ((with_reducible refine quietL_skip (by with_unfolding_all rfl) ?_); simp only [Act.put, List.setIfInBounds_toArray, List.set_cons_zero, List.set_cons_succ]))); refine quietL_nil ?_)
                  (refine anyB_one (i := 8) (by kernel_rfl) rfl rfl ?_; intro w30 hb30 K hK; have hs30 := hb30.size; (try simp at hs30); go_wp2; refine ⟨xs_, ?_⟩)
                  (refine anyB_one (i := 9) (by kernel_rfl) rfl rfl ?_; intro w31 hb31 K hK; have hs31 := hb31.size; (try simp at hs31); go_wp2; refine ⟨xs_, ?_⟩)
                  (refine anyB_end (by kernel_rfl) ?_; intro w32 hb32; have hs32 := hb32.size; (try simp at hs32); simp only [Calm])
                  have FT := Lib.hid ((((⟨HRd.out⟩ : RdI w29 A14 _ _).kept hb30).kept hb31).kept hb32)
                  clear HRd HX cX lX HM222
                  have hb := hb24.trans ((hb25.trans ((hb26.trans ((hb27.trans ((hb28.trans ((hb29.trans ((hb30.trans ((hb31.trans ((hb32).mono hs31)).mono hs30)).mono hs29)).mono hs28)).mono hs27)).mono hs26)).mono hs25)).mono hs24)
                  clear hb24 hb25 hb26 hb27 hb28 hb29 hb30 hb31 hb32 hs24 hs25 hs26 hs27 hs28 hs29 hs30 hs31 hs32
                  clear cHA lHA cHO lHO cHN lHN
                  have hs32 := hb.size
                  have HL' := Lib.hid (HL.out.trans (hb.mono HL.out.size)); clear HL; have HL := HL'; clear HL'
                  have HA' := Lib.hid (HA.out.kept hb); clear HA; have HA := HA'; clear HA'
                  have HO' := Lib.hid (HO.out.kept hb); clear HO; have HO := HO'; clear HO'
                  have FS' := Lib.hid (FS.out.kept hb); clear FS; have FS := FS'; clear FS'
                  have HN' := Lib.hid (HN.out.kept hb); clear HN; have HN := HN'; clear HN'
                  have HG' := Lib.hid (HG.out.kept hb); clear HG; have HG := HG'; clear HG'
                  clear hb
                  have cHA := HA.out.cell
                  have lHA := HA.out.lt
                  have cHO := HO.out.cell
                  have lHO := HO.out.lt
                  have cHN := HN.out.cell
                  have lHN := HN.out.lt
                  as_aux_lemma =>
                    have hef0 : ef = 0 := HFr.out.1 (by simp)
                    subst hef0
                    have hEn := HEn.out
                    have hr := HEr.out
                    have hrf := HEf.out
                    have hLc : L = choiceA a o := HLe.out.symm.trans (cho_ok hEn.1 hEn.2.1 hr)
                    have hL2c : L2 = choiceA (freeA a) o := HL2e.out.symm.trans (cho_ok (free_ok hEn.1) hEn.2.1 hrf)
                    obtain ⟨hs1, hs2⟩ := cho_set hEn.1 hEn.2.1 hr
                    have hce0 : ce = 0 := by rw [← HCe.out, hLc]; exact hs1
                    have hcl : cv ≤ a.lim := by rw [← HCv.out, hLc]; exact hs2
                    subst hce0
                    have hoz := order_zero hEn.2.1
                    have hn1 : (L.length : Int) = o.n := by rw [hLc]; exact choice_len (fit_of hEn.1) hoz.1.1 hr
                    have hn2 : (L2.length : Int) = o.n := by rw [hL2c]; exact choice_len (fit_of (free_ok hEn.1)) hoz.1.1 hrf
                    have hul := us_len_le a
                    have hrz := ref_zero hr
                    rw [hEn.2.2.2] at hul
                    have q1 : ((L.length : Int) != o.n) = false := by simpa using hn1
                    have q2 : ((L2.length : Int) != o.n) = false := by simpa using hn2
                    have q3 : decide ((n : Int) < (L.length : Int)) = false := by simp; omega
                    have q4 : decide (a.lim < cv) = false := by simp; omega
                    have q3n : ¬ n < L.length := by omega
                    have q4n : ¬ a.lim < cv := by omega
                    have HEl : Hid (∀ z ∈ L, ∃ j, ∃ h : j < a.m.length, z = (j : Int) ∧ (a.m[j]).by_ = false) := Lib.hid (by rw [hLc]; exact fun z hz => cho_at hEn.1 hEn.2.1 hr hz)
                    have HEl2 : Hid (∀ z ∈ L2, ∃ j, ∃ h : j < a.m.length, z = (j : Int) ∧ (a.m[j]).by_ = false) := Lib.hid (by rw [hL2c]; exact fun z hz => cho_at (free_ok hEn.1) hEn.2.1 hrf hz)
                    have HBs : Hid (∀ i j, (hi : i < a.m.length) → (hj : j < a.m.length) → (a.m[i]).by_ = false → hasI L2 (i : Int) = false → (j : Int) ∈ L2 → strictB (a.m[i]).q (a.m[j]).q o.c = false) := Lib.hid (fun i j hi hj hb hh hm => by
                      have := free_best hEn.1 hEn.2.1 hrf (i := (i : Int)) (k := (j : Int)) (mem_idxs.2 ⟨i, hi, by omega, by unfold usB; rw [hb]; rfl⟩) (by rw [← hL2c]; exact hh) (by rw [← hL2c]; exact hm)
                      rwa [ckA_q hi, ckA_q hj] at this)
                    have HLc := Lib.hid hLc
                    clear hEn hr hrf hLc hL2c hs1 hs2 hn1 hn2 hul hrz hcl
                    go_upto_block 0 with fail
                    go_cut [] (fun wx => Below w32.heap.size w32 wx)
                    case first =>
                      as_aux_lemma =>
                        clear q1 q2 q3 q4 q3n q4n
                        have FS1 := FS; have FT1 := FT; have HA1 := HA; have HL1 := HL
                        clear FS FT HA HL cHA lHA HO cHO lHO
                        go_wp2_with fail
                        go_loopw [149] (fun s149 wr => ∃ q : Int, (q = 0 ∨ q = 1 ∨ q = 2) ∧ s149 = .int .i64 q ∧ Below w32.heap.size w32 wr) (fun s149 _ => 2 - (intOf s149).toNat)
                        case atStart => exact ⟨0, .inl rfl, rfl, Below.refl _ _⟩
                        case round =>
                          obtain ⟨q, hq, rfl, hbw⟩ := hrel
                          have FS := Lib.hid (FS1.out.kept hbw)
                          have FT := Lib.hid (FT1.out.kept hbw)
                          have HA := Lib.hid (HA1.out.kept hbw)
                          have HL := Lib.hid (HL1.out.trans (hbw.mono HL1.out.size))
                          have HBw := Lib.hid hbw
                          have cHA := HA.out.cell
                          have lHA := HA.out.lt
                          have hsr := hbw.size
                          clear hbw
                          rcases hq with rfl | rfl | rfl
                          · have hix := (pair_at (.slice A5 L.length c5) (.slice A14 L2.length c14) wr).1
                            rename World => wo
                            go_wp2_with fail
                            go_loopw [154] (fun s154 wq => ∃ i : Nat, i ≤ L.length ∧ s154 = .int .i64 (i : Int) ∧ Below wo.heap.size wo wq) (fun s154 _ => L.length - (intOf s154).toNat)
                            case atStart => exact ⟨0, by omega, rfl, Below.refl _ _⟩
                            case round =>
                              rename World => wq
                              clear hix
                              obtain ⟨i, hi, rfl, hbq⟩ := hrel
                              have HBq := Lib.hid hbq
                              have hsq := hbq.size
                              have HAq := HA.out.kept hbq
                              have hLq := HL.out.trans (hbq.mono HL.out.size)
                              have hslq := hLq.size
                              clear cHA lHA
                              have cA := HAq.cell
                              have lA := HAq.lt
                              by_cases hlt : i < L.length
                              · obtain ⟨_, hat⟩ := int_at (FS.out.kept hbq).out
                                obtain ⟨bs, os, es', hbs, z0⟩ := hat i hlt
                                obtain ⟨j, hj, ej, hby⟩ := HEl.out L[i] (List.getElem_mem hlt)
                                rw [ej] at z0
                                obtain ⟨_, hatM⟩ := md_at (HMs.out.below hLq)
                                obtain ⟨bm, om, em, hbm, x0, x1, x2, x3⟩ := hatM j hj
                                rw [hby] at x3
                                have hjn : j < n := by rw [HEn.out.2.2.2] at hj; exact hj
                                have hbmq : bm < wq.heap.size := by omega
                                clear hat hatM x0 x1 x2 ej hby hbq hLq HAq
                                subst es'
                                subst em
                                go_wp2_with fail
                                go_roundw
                                case rel => exact ⟨i + 1, by omega, by go_num, HBq.out⟩
                                case measure => simp [intOf]; omega
                              · obtain rfl : i = L.length := by omega
                                have HBz := Lib.hid (HBw.out.trans (hbq.mono hsr))
                                clear hbq hLq HAq
                                go_wp2_with fail
                                go_roundw
                                case rel => exact ⟨1, by simp, by go_num, HBz.out⟩
                                case measure => simp [intOf]
                          · have hix := (pair_at (.slice A5 L.length c5) (.slice A14 L2.length c14) wr).2
                            rename World => wo
                            go_wp2_with fail
                            go_loopw [154] (fun s154 wq => ∃ i : Nat, i ≤ L2.length ∧ s154 = .int .i64 (i : Int) ∧ Below wo.heap.size wo wq) (fun s154 _ => L2.length - (intOf s154).toNat)
                            case atStart => exact ⟨0, by omega, rfl, Below.refl _ _⟩
                            case round =>
                              rename World => wq
                              clear hix
                              obtain ⟨i, hi, rfl, hbq⟩ := hrel
                              have HBq := Lib.hid hbq
                              have hsq := hbq.size
                              have HAq := HA.out.kept hbq
                              have hLq := HL.out.trans (hbq.mono HL.out.size)
                              have hslq := hLq.size
                              clear cHA lHA
                              have cA := HAq.cell
                              have lA := HAq.lt
                              by_cases hlt : i < L2.length
                              · obtain ⟨_, hat⟩ := int_at (FT.out.kept hbq).out
                                obtain ⟨bs, os, es', hbs, z0⟩ := hat i hlt
                                obtain ⟨j, hj, ej, hby⟩ := HEl2.out L2[i] (List.getElem_mem hlt)
                                rw [ej] at z0
                                obtain ⟨_, hatM⟩ := md_at (HMs.out.below hLq)
                                obtain ⟨bm, om, em, hbm, x0, x1, x2, x3⟩ := hatM j hj
                                rw [hby] at x3
                                have hjn : j < n := by rw [HEn.out.2.2.2] at hj; exact hj
                                have hbmq : bm < wq.heap.size := by omega
                                clear hat hatM x0 x1 x2 ej hby hbq hLq HAq
                                subst es'
                                subst em
                                go_wp2_with fail
                                go_roundw
                                case rel => exact ⟨i + 1, by omega, by go_num, HBq.out⟩
                                case measure => simp [intOf]; omega
                              · obtain rfl : i = L2.length := by omega
                                have HBz := Lib.hid (HBw.out.trans (hbq.mono hsr))
                                clear hbq hLq HAq
                                go_wp2_with fail
                                go_roundw
                                case rel => exact ⟨2, by simp, by go_num, HBz.out⟩
                                case measure => simp [intOf]
                          · go_wp2_with fail
                            go_meet
                            case rel => exact HBw.out
                    rename World => w33
                    have hb := hcut
                    clear hcut
                    clear cHA lHA cHO lHO cHN lHN
                    have hs33 := hb.size
                    have HL' := Lib.hid (HL.out.trans (hb.mono HL.out.size)); clear HL; have HL := HL'; clear HL'
                    have HA' := Lib.hid (HA.out.kept hb); clear HA; have HA := HA'; clear HA'
                    have HO' := Lib.hid (HO.out.kept hb); clear HO; have HO := HO'; clear HO'
                    have FS' := Lib.hid (FS.out.kept hb); clear FS; have FS := FS'; clear FS'
                    have HN' := Lib.hid (HN.out.kept hb); clear HN; have HN := HN'; clear HN'
                    have HG' := Lib.hid (HG.out.kept hb); clear HG; have HG := HG'; clear HG'
                    have FT' := Lib.hid (FT.out.kept hb); clear FT; have FT := FT'; clear FT'
                    clear hb
                    have cHA := HA.out.cell
                    have lHA := HA.out.lt
                    have cHO := HO.out.cell
                    have lHO := HO.out.lt
                    have cHN := HN.out.cell
                    have lHN := HN.out.lt
                    go_upto_block 4 with fail
                    go_cut [] (fun wx => Below w33.heap.size w33 wx)
                    case first =>
                      as_aux_lemma =>
                        have FT1 := FT; have HA1 := HA; have HL1 := HL; have HO1 := HO
                        clear FS FT HA HL cHA lHA HO cHO lHO
                        go_wp2_with fail
                        go_loopw [180] (fun s180 wr => ∃ i : Nat, i ≤ n ∧ s180 = .int .i64 (i : Int) ∧ Below w33.heap.size w33 wr) (fun s180 _ => n - (intOf s180).toNat)
                        case atStart => exact ⟨0, by omega, rfl, Below.refl _ _⟩
                        case round =>
                          rename World => wo
                          obtain ⟨i, hi, rfl, hbw⟩ := hrel
                          have HBw := Lib.hid hbw
                          have FT := Lib.hid (FT1.out.kept hbw)
                          have HA := Lib.hid (HA1.out.kept hbw)
                          have HO := Lib.hid (HO1.out.kept hbw)
                          have HL := Lib.hid (HL1.out.trans (hbw.mono HL1.out.size))
                          have cHA := HA.out.cell
                          have lHA := HA.out.lt
                          have hsr := hbw.size
                          have hslo := HL.out.size
                          clear hbw
                          by_cases hlt : i < n
                          · have hil : i < a.m.length := by rw [HEn.out.2.2.2]; exact hlt
                            obtain ⟨_, hatM⟩ := md_at (HMs.out.below HL.out)
                            obtain ⟨bm, om, em, hbm, x0, x1, x2, x3⟩ := hatM i hil
                            have HBi : Hid ((a.m[i]).by_ = false → hasI L2 (i : Int) = false → ∀ j, (hj : j < a.m.length) → (j : Int) ∈ L2 → strictB (a.m[i]).q (a.m[j]).q o.c = false) := Lib.hid (fun h1 h2 j hj hm => HBs.out i j hil hj h1 h2 hm)
                            clear hatM
                            generalize a.m[i] = x at *
                            obtain ⟨xn, xq, xo, xb⟩ := x
                            dsimp only at x0 x1 x2 x3 HBi
                            clear hil
                            have hbmo : bm < wo.heap.size := by omega
                            obtain ⟨hh, hhe⟩ : ∃ hh, hasI L2 (i : Int) = hh := ⟨_, rfl⟩
                            have HHe := Lib.hid hhe
                            rw [hhe] at HBi
                            clear hhe
                            subst em
                            go_upto_block 6 with fail
                            refine wp_world ?_
                            intro W0 hW0
                            have hb0 : Below wo.heap.size wo W0 := by rw [hW0]; exact bl_
                            have bX0 : Blk W0 wo.heap.size 74 #[.string xn, .int .i64 xq, .bool xo, .bool xb] := by rw [hW0]; exact bk_
                            have HB0 := Lib.hid hb0
                            have hs0 := hb0.size
                            clear hW0 hb0 x0 x1 x2 x3 cHA lHA
                            go_wp2_with fail
                            go_loopw [187] (fun s187 wr => ∃ k : Nat, k ≤ L2.length ∧ s187 = .int .i64 (k : Int) ∧ Below W0.heap.size W0 wr) (fun s187 _ => L2.length - (intOf s187).toNat)
                            case atStart => exact ⟨0, by omega, rfl, Below.refl _ _⟩
                            case round =>
                              rename World => wq
                              obtain ⟨k, hk, rfl, hbq⟩ := hrel
                              have hbq0 := HB0.out.trans (hbq.mono hs0)
                              have HBq := Lib.hid hbq
                              have hsq := hbq0.size
                              have bA := HA.out.kept hbq0
                              have bO := HO.out.kept hbq0
                              have bX := bX0.kept hbq
                              have hLq := HL.out.trans (hbq0.mono hslo)
                              have hslq := hLq.size
                              by_cases hkl : k < L2.length
                              · obtain ⟨_, hat⟩ := int_at (FT.out.kept hbq0).out
                                obtain ⟨bs, os, es', hbs, z0⟩ := hat k hkl
                                obtain ⟨j, hj, ej, hbyj⟩ := HEl2.out L2[k] (List.getElem_mem hkl)
                                have hjm : (j : Int) ∈ L2 := by rw [← ej]; exact List.getElem_mem hkl
                                rw [ej] at z0
                                obtain ⟨_, hatM⟩ := md_at (HMs.out.below hLq)
                                obtain ⟨bn, on, en, hbn, y0, y1, y2, y3⟩ := hatM j hj
                                clear y0 y2 y3 hbyj
                                have HSt := Lib.hid (fun h1 h2 => HBi.out h1 h2 j hj hjm)
                                have HHi := Lib.hid (fun W' (hW : Below wq.heap.size wq W') => HasInt_any wq.heap.size A14 L2.length c14 L2 (i : Int) W' ((FT.out.kept hbq0).out.below hW) (by unfold maxLen; omega))
                                rw [HHe.out] at HHi
                                have hjn : j < n := by rw [HEn.out.2.2.2] at hj; exact hj
                                have hbnq : bn < wq.heap.size := by omega
                                have HY := Lib.hid y1
                                clear hat hatM ej hjm hbq hbq0 hLq y1
                                generalize (a.m[j]).q = yq at *
                                have y1 := HY.out
                                clear HY hj
                                subst es'
                                cases en
                                have cA := bA.cell
                                have lA := bA.lt
                                have cO := bO.cell
                                have lO := bO.lt
                                have cX := bX.cell
                                have lX := bX.lt
                                cases xb with
                                | true =>
                                  go_wp2_with fail
                                  (refine wp_region_calm [] [0, 1, 2, 3, 4, 5, 6, 7, 8, 9, 10, 11, 12, 13, 14, 15, 16, 17, 18, 19, 20, 21] 0 (by kernel_rfl) rfl (by kernel_rfl) (by kernel_rfl) (by kernel_rfl) ?_; simp only [pickB, List.filterMap_cons, List.filterMap_nil, List.getElem?_toArray, List.getElem?_cons_zero, List.getElem?_cons_succ]; (repeat (first | ((first | (with_reducible refine quietL_plain rfl (fun K hK => ?_)) | (with_reducible refine quietL_want (by with_unfolding_all rfl) (fun K hK => ?_))); (apply Exists.intro; refine ⟨fun wx hx => ?_, ?_⟩; (· (have hcx := ifs_ex hx); simp [go_sem, *, ↓IntWalk.iteOmega] <;> (first | rfl | exact ⟨rfl, rfl⟩ | fail)); (simp only [Act.put, List.setIfInBounds_toArray, List.set_cons_zero, List.set_cons_succ]; refine hK _ ?_; clear hK K))) | ((with_reducible refine quietL_skip (by with_unfolding_all rfl) ?_); simp only [Act.put, List.setIfInBounds_toArray, List.set_cons_zero, List.set_cons_succ]))); refine quietL_nil ?_)
                                  (refine anyB_end (by kernel_rfl) ?_; intro w99 hb99; have hs99 := hb99.size; (try simp at hs99); simp only [Calm])
                                  have HBe := Lib.hid (HBq.out.trans (hb99.mono HBq.out.size))
                                  clear hb99 cA lA cO lO cX lX bA bO bX
                                  go_wp2_with fail
                                  go_roundw
                                  case rel => exact ⟨k + 1, by omega, by go_num, HBe.out⟩
                                  case measure => simp [intOf]; omega
                                | false =>
                                  cases hh with
                                  | true =>
                                    go_wp2_with fail
                                    (refine wp_region_calm [] [0, 1, 2, 3, 4, 5, 6, 7, 8, 9, 10, 11, 12, 13, 14, 15, 16, 17, 18, 19, 20, 21] 0 (by kernel_rfl) rfl (by kernel_rfl) (by kernel_rfl) (by kernel_rfl) ?_; simp only [pickB, List.filterMap_cons, List.filterMap_nil, List.getElem?_toArray, List.getElem?_cons_zero, List.getElem?_cons_succ]; (repeat (first | ((first | (with_reducible refine quietL_plain rfl (fun K hK => ?_)) | (with_reducible refine quietL_want (by with_unfolding_all rfl) (fun K hK => ?_))); (apply Exists.intro; refine ⟨fun wx hx => ?_, ?_⟩; (· (have hcx := ifs_ex hx); simp [go_sem, *, ↓IntWalk.iteOmega] <;> (first | rfl | exact ⟨rfl, rfl⟩ | (with_reducible exact calls_B (calls_below (HHi.out _ (Ex.low hx)))))); (simp only [Act.put, List.setIfInBounds_toArray, List.set_cons_zero, List.set_cons_succ]; refine hK _ ?_; clear hK K))) | ((with_reducible refine quietL_skip (by with_unfolding_all rfl) ?_); simp only [Act.put, List.setIfInBounds_toArray, List.set_cons_zero, List.set_cons_succ]))); refine quietL_nil ?_)
                                    (refine anyB_end (by kernel_rfl) ?_; intro w99 hb99; have hs99 := hb99.size; (try simp at hs99); simp only [Calm])
                                    have HBe := Lib.hid (HBq.out.trans (hb99.mono HBq.out.size))
                                    clear hb99 cA lA cO lO cX lX bA bO bX
                                    go_wp2_with fail
                                    go_roundw
                                    case rel => exact ⟨k + 1, by omega, by go_num, HBe.out⟩
                                    case measure => simp [intOf]; omega
                                  | false =>
                                    have hst := HSt.out rfl rfl
                                    have HSy := Lib.hid (fun W => Strictly_any xq yq o.c W)
                                    rw [hst] at HSy
                                    clear hst
                                    go_wp2_with fail
                                    (refine wp_region_calm [] [0, 1, 2, 3, 4, 5, 6, 7, 8, 9, 10, 11, 12, 13, 14, 15, 16, 17, 18, 19, 20, 21] 0 (by kernel_rfl) rfl (by kernel_rfl) (by kernel_rfl) (by kernel_rfl) ?_; simp only [pickB, List.filterMap_cons, List.filterMap_nil, List.getElem?_toArray, List.getElem?_cons_zero, List.getElem?_cons_succ]; (repeat (first | ((first | (with_reducible refine quietL_plain rfl (fun K hK => ?_)) | (with_reducible refine quietL_want (by with_unfolding_all rfl) (fun K hK => ?_))); (apply Exists.intro; refine ⟨fun wx hx => ?_, ?_⟩; (· (have hcx := ifs_ex hx); simp [go_sem, *, ↓IntWalk.iteOmega] <;> (first | rfl | exact ⟨rfl, rfl⟩ | (first | (with_reducible exact calls_B (calls_below (HHi.out _ (Ex.low hx)))) | (with_reducible exact calls_B (calls_below (HSy.out _)))))); (simp only [Act.put, List.setIfInBounds_toArray, List.set_cons_zero, List.set_cons_succ]; refine hK _ ?_; clear hK K))) | ((with_reducible refine quietL_skip (by with_unfolding_all rfl) ?_); simp only [Act.put, List.setIfInBounds_toArray, List.set_cons_zero, List.set_cons_succ]))); refine quietL_nil ?_)
                                    (refine anyB_end (by kernel_rfl) ?_; intro w99 hb99; have hs99 := hb99.size; (try simp at hs99); simp only [Calm])
                                    have HBe := Lib.hid (HBq.out.trans (hb99.mono HBq.out.size))
                                    clear hb99 cA lA cO lO cX lX bA bO bX
                                    go_wp2_with fail
                                    go_roundw
                                    case rel => exact ⟨k + 1, by omega, by go_num, HBe.out⟩
                                    case measure => simp [intOf]; omega
                              · obtain rfl : k = L2.length := by omega
                                have HBz := Lib.hid (HBw.out.trans (hbq0.mono hsr))
                                clear hbq hbq0 bA bO bX hLq
                                go_wp2_with fail
                                go_roundw
                                case rel => exact ⟨i + 1, by omega, by go_num, HBz.out⟩
                                case measure => simp [intOf]; omega
                          · obtain rfl : i = n := by omega
                            go_wp2_with fail
                            go_meet
                            case rel => exact HBw.out
                    rename World => w34
                    have hb := hcut
                    clear hcut
                    clear cHA lHA cHO lHO cHN lHN
                    have hs34 := hb.size
                    have HL' := Lib.hid (HL.out.trans (hb.mono HL.out.size)); clear HL; have HL := HL'; clear HL'
                    have HA' := Lib.hid (HA.out.kept hb); clear HA; have HA := HA'; clear HA'
                    have HO' := Lib.hid (HO.out.kept hb); clear HO; have HO := HO'; clear HO'
                    have FS' := Lib.hid (FS.out.kept hb); clear FS; have FS := FS'; clear FS'
                    have HN' := Lib.hid (HN.out.kept hb); clear HN; have HN := HN'; clear HN'
                    have HG' := Lib.hid (HG.out.kept hb); clear HG; have HG := HG'; clear HG'
                    have FT' := Lib.hid (FT.out.kept hb); clear FT; have FT := FT'; clear FT'
                    clear hb
                    have cHA := HA.out.cell
                    have lHA := HA.out.lt
                    have cHO := HO.out.cell
                    have lHO := HO.out.lt
                    have cHN := HN.out.cell
                    have lHN := HN.out.lt
                    as_aux_lemma =>
                      have hEn := HEn.out
                      have hs0 := HEs.out
                      have hr := HEr.out
                      have hn0 := (order_zero hEn.2.1).1
                      have hoc := (order_zero hEn.2.1).2
                      have hES := step_ok hEn.1 hn0.1 hs0
                      have hFS : FitA (stepA a o) := fit_step hEn.2.2.1 ⟨rfl, rfl, rfl, rfl, stepMs_names _ _ _ _, stepMs_by _ _ _ _⟩
                      have hMl : (stepA a o).m.length = n := (stepMs_len (choiceA a o) o.c a.m 0).trans hEn.2.2.2
                      have hsp := step_spread (fit_of hEn.1) hn0.1 hr
                      have hbv : boundL a o = bv := by
                        rw [← HBv.out]
                        unfold bouV
                        rw [if_pos ((cho_eq hEn.1 hEn.2.1).trans hr)]
                      rw [hbv] at hsp
                      have hvo := volt_step hEn.1 hEn.2.1 hr
                      rw [← HLc.out, ← sumTo_all] at hvo
                      have hq := (fit_of hEn.1).q
                      have HQ := Lib.hid hq
                      have hfb : ∀ i ∈ L, -1000 ≤ (ckA a o.c).ch i + o.c ∧ (ckA a o.c).ch i + o.c ≤ 17384 := fun i hi => by
                        obtain ⟨j, hj, rfl, _⟩ := HEl.out i hi
                        have := hq _ (List.getElem_mem hj)
                        rw [ckA_q hj]
                        omega
                      have HFb := Lib.hid (sumTo_bd hfb)
                      have HTo := Lib.hid (fun W A c (hm : MsAt W W.heap.size A n (stepA a o).m) => told_r W.heap.size A n c (stepA a o) W hm (Nat.le_refl _) (by omega))
                      have HOo := Lib.hid (fun W A c (hm : MsAt W W.heap.size A n (stepA a o).m) => own_r W.heap.size A n c (stepA a o) W hm (Nat.le_refl _) (by omega))
                      have HSp := Lib.hid (fun W A c (hm : MsAt W W.heap.size A n (stepA a o).m) (hc : n ≤ c) => Spread_any W.heap.size A n c (stepA a o) W hm (Nat.le_refl _) hFS hc hES)
                      have HVo := Lib.hid (fun W A c (hm : MsAt W W.heap.size A n (stepA a o).m) (hc : n ≤ c) => Voltage_any W.heap.size A n c (stepA a o) W hm (Nat.le_refl _) hFS hc hES)
                      unfold OwnR at HTo HOo
                      rw [hvo] at HVo
                      have hsa : stepA a o = ⟨(stepA a o).m, a.lo, a.hi, a.cur, a.lim⟩ := rfl
                      generalize spreadL (stepA a o) = sv at *
                      rw [hsa] at HTo HOo HSp HVo
                      dsimp only at HTo HOo HSp HVo
                      clear hsa hFS hES hvo hbv hs0 hr hq hfb hEn
                      generalize (stepA a o).m = M at *
                      have q6 : decide (sv ≤ bv) = true := by simp; omega
                      clear HBs HEl2 HFr HFc HFt HFo HBo HCg HCh HCe HCv HLe HL2e HBv HFa
                      go_wp2_with fail
                      refine (HTo.out _ _ _ ((BlkArm.at (b := ⟨M, 0, 0, 0, 0⟩) HG.out hMl).more HG.out.lt)).mono ?_
                      rintro e w35 ⟨A35, c35, rfl, hm, hc, hb⟩
                      have HM35 := Lib.hid hm; have HC35 := Lib.hid hc; clear hm hc; clear HC35
                      clear cHA lHA cHO lHO cHN lHN
                      have hs35 := hb.size
                      have HL' := Lib.hid (HL.out.trans (hb.mono HL.out.size)); clear HL; have HL := HL'; clear HL'
                      have HA' := Lib.hid (HA.out.kept hb); clear HA; have HA := HA'; clear HA'
                      have HO' := Lib.hid (HO.out.kept hb); clear HO; have HO := HO'; clear HO'
                      have FS' := Lib.hid (FS.out.kept hb); clear FS; have FS := FS'; clear FS'
                      have HN' := Lib.hid (HN.out.kept hb); clear HN; have HN := HN'; clear HN'
                      have HG' := Lib.hid (HG.out.kept hb); clear HG; have HG := HG'; clear HG'
                      have FT' := Lib.hid (FT.out.kept hb); clear FT; have FT := FT'; clear FT'
                      clear hb
                      have cHA := HA.out.cell
                      have lHA := HA.out.lt
                      have cHO := HO.out.cell
                      have lHO := HO.out.lt
                      have cHN := HN.out.cell
                      have lHN := HN.out.lt
                      go_wp2_with fail
                      refine (HOo.out _ _ _ HM35.out).mono ?_
                      rintro e w36 ⟨A36, c36, rfl, hm, hc, hb⟩
                      have HM36 := Lib.hid hm; have HC36 := Lib.hid hc; clear hm hc; clear HM35
                      clear cHA lHA cHO lHO cHN lHN
                      have hs36 := hb.size
                      have HL' := Lib.hid (HL.out.trans (hb.mono HL.out.size)); clear HL; have HL := HL'; clear HL'
                      have HA' := Lib.hid (HA.out.kept hb); clear HA; have HA := HA'; clear HA'
                      have HO' := Lib.hid (HO.out.kept hb); clear HO; have HO := HO'; clear HO'
                      have FS' := Lib.hid (FS.out.kept hb); clear FS; have FS := FS'; clear FS'
                      have HN' := Lib.hid (HN.out.kept hb); clear HN; have HN := HN'; clear HN'
                      have HG' := Lib.hid (HG.out.kept hb); clear HG; have HG := HG'; clear HG'
                      have FT' := Lib.hid (FT.out.kept hb); clear FT; have FT := FT'; clear FT'
                      clear hb
                      have cHA := HA.out.cell
                      have lHA := HA.out.lt
                      have cHO := HO.out.cell
                      have lHO := HO.out.lt
                      have cHN := HN.out.cell
                      have lHN := HN.out.lt
                      go_wp2_with fail
                      refine (HSp.out _ _ _ HM36.out HC36.out).mono ?_
                      rintro e w37 ⟨rfl, hb⟩
                      clear HM36 HC36
                      clear cHA lHA cHO lHO cHN lHN
                      have hs37 := hb.size
                      have HL' := Lib.hid (HL.out.trans (hb.mono HL.out.size)); clear HL; have HL := HL'; clear HL'
                      have HA' := Lib.hid (HA.out.kept hb); clear HA; have HA := HA'; clear HA'
                      have HO' := Lib.hid (HO.out.kept hb); clear HO; have HO := HO'; clear HO'
                      have FS' := Lib.hid (FS.out.kept hb); clear FS; have FS := FS'; clear FS'
                      have HN' := Lib.hid (HN.out.kept hb); clear HN; have HN := HN'; clear HN'
                      have HG' := Lib.hid (HG.out.kept hb); clear HG; have HG := HG'; clear HG'
                      have FT' := Lib.hid (FT.out.kept hb); clear FT; have FT := FT'; clear FT'
                      clear hb
                      have cHA := HA.out.cell
                      have lHA := HA.out.lt
                      have cHO := HO.out.cell
                      have lHO := HO.out.lt
                      have cHN := HN.out.cell
                      have lHN := HN.out.lt
                      go_wp2_with fail
                      refine (HTo.out _ _ _ ((BlkArm.at (b := ⟨M, 0, 0, 0, 0⟩) HG.out hMl).more HG.out.lt)).mono ?_
                      rintro e w38 ⟨A38, c38, rfl, hm, hc, hb⟩
                      have HM38 := Lib.hid hm; have HC38 := Lib.hid hc; clear hm hc; clear HC38
                      clear cHA lHA cHO lHO cHN lHN
                      have hs38 := hb.size
                      have HL' := Lib.hid (HL.out.trans (hb.mono HL.out.size)); clear HL; have HL := HL'; clear HL'
                      have HA' := Lib.hid (HA.out.kept hb); clear HA; have HA := HA'; clear HA'
                      have HO' := Lib.hid (HO.out.kept hb); clear HO; have HO := HO'; clear HO'
                      have FS' := Lib.hid (FS.out.kept hb); clear FS; have FS := FS'; clear FS'
                      have HN' := Lib.hid (HN.out.kept hb); clear HN; have HN := HN'; clear HN'
                      have HG' := Lib.hid (HG.out.kept hb); clear HG; have HG := HG'; clear HG'
                      have FT' := Lib.hid (FT.out.kept hb); clear FT; have FT := FT'; clear FT'
                      clear hb
                      have cHA := HA.out.cell
                      have lHA := HA.out.lt
                      have cHO := HO.out.cell
                      have lHO := HO.out.lt
                      have cHN := HN.out.cell
                      have lHN := HN.out.lt
                      go_wp2_with fail
                      refine (HOo.out _ _ _ HM38.out).mono ?_
                      rintro e w39 ⟨A39, c39, rfl, hm, hc, hb⟩
                      have HM39 := Lib.hid hm; have HC39 := Lib.hid hc; clear hm hc; clear HM38
                      clear cHA lHA cHO lHO cHN lHN
                      have hs39 := hb.size
                      have HL' := Lib.hid (HL.out.trans (hb.mono HL.out.size)); clear HL; have HL := HL'; clear HL'
                      have HA' := Lib.hid (HA.out.kept hb); clear HA; have HA := HA'; clear HA'
                      have HO' := Lib.hid (HO.out.kept hb); clear HO; have HO := HO'; clear HO'
                      have FS' := Lib.hid (FS.out.kept hb); clear FS; have FS := FS'; clear FS'
                      have HN' := Lib.hid (HN.out.kept hb); clear HN; have HN := HN'; clear HN'
                      have HG' := Lib.hid (HG.out.kept hb); clear HG; have HG := HG'; clear HG'
                      have FT' := Lib.hid (FT.out.kept hb); clear FT; have FT := FT'; clear FT'
                      clear hb
                      have cHA := HA.out.cell
                      have lHA := HA.out.lt
                      have cHO := HO.out.cell
                      have lHO := HO.out.lt
                      have cHN := HN.out.cell
                      have lHN := HN.out.lt
                      go_wp2_with fail
                      refine (HVo.out _ _ _ HM39.out HC39.out).mono ?_
                      rintro e w40 ⟨rfl, hb⟩
                      clear HM39 HC39
                      clear cHA lHA cHO lHO cHN lHN
                      have hs40 := hb.size
                      have HL' := Lib.hid (HL.out.trans (hb.mono HL.out.size)); clear HL; have HL := HL'; clear HL'
                      have HA' := Lib.hid (HA.out.kept hb); clear HA; have HA := HA'; clear HA'
                      have HO' := Lib.hid (HO.out.kept hb); clear HO; have HO := HO'; clear HO'
                      have FS' := Lib.hid (FS.out.kept hb); clear FS; have FS := FS'; clear FS'
                      have HN' := Lib.hid (HN.out.kept hb); clear HN; have HN := HN'; clear HN'
                      have HG' := Lib.hid (HG.out.kept hb); clear HG; have HG := HG'; clear HG'
                      have FT' := Lib.hid (FT.out.kept hb); clear FT; have FT := FT'; clear FT'
                      clear hb
                      have cHA := HA.out.cell
                      have lHA := HA.out.lt
                      have cHO := HO.out.cell
                      have lHO := HO.out.lt
                      have cHN := HN.out.cell
                      have lHN := HN.out.lt
                      go_upto_block 8 with fail
                      go_cut [26] (fun s26 wx => s26 = .int .i64 0 ∧ Below w40.heap.size w40 wx)
                      case first =>
                        as_aux_lemma =>
                          have FS1 := FS; have HA1 := HA; have HO1 := HO; have HL1 := HL
                          clear FS FT HA HL cHA lHA HO cHO lHO HSp HVo HTo HOo
                          go_wp2_with fail
                          go_loopw [26, 235] (fun s26 s235 wr => ∃ i : Nat, i ≤ L.length ∧ s235 = .int .i64 (i : Int) ∧ s26 = .int .i64 (sumTo (fun i => (ckA a o.c).ch i + o.c) L L.length - sumTo (fun i => (ckA a o.c).ch i + o.c) L i) ∧ Below w40.heap.size w40 wr) (fun _ s235 _ => L.length - (intOf s235).toNat)
                          case atStart => exact ⟨0, by omega, rfl, by rw [sumTo_zero, Int.sub_zero], Below.refl _ _⟩
                          case round =>
                            rename World => wq
                            obtain ⟨i, hi, rfl, rfl, hbq⟩ := hrel
                            have HBq := Lib.hid hbq
                            have hsq := hbq.size
                            have HAq := HA1.out.kept hbq
                            have HOq := HO1.out.kept hbq
                            have hLq := HL1.out.trans (hbq.mono HL1.out.size)
                            have hslq := hLq.size
                            have cA := HAq.cell
                            have lA := HAq.lt
                            have cO := HOq.cell
                            have lO := HOq.lt
                            have hb0 := HFb.out L.length (Nat.le_refl _)
                            have hbi := HFb.out i hi
                            by_cases hlt : i < L.length
                            · obtain ⟨_, hat⟩ := int_at (FS1.out.kept hbq).out
                              obtain ⟨bs, os, es', hbs, z0⟩ := hat i hlt
                              obtain ⟨j, hj, ej, hby⟩ := HEl.out L[i] (List.getElem_mem hlt)
                              rw [ej] at z0
                              have HSu := Lib.hid (sumTo_succ (f := fun i => (ckA a o.c).ch i + o.c) hlt)
                              rw [ej] at HSu
                              rw [ckA_q hj] at HSu
                              have hqj := HQ.out _ (List.getElem_mem hj)
                              obtain ⟨_, hatM⟩ := md_at (HMs.out.below hLq)
                              obtain ⟨bm, om, em, hbm, x0, x1, x2, x3⟩ := hatM j hj
                              have hjn : j < n := by rw [HEn.out.2.2.2] at hj; exact hj
                              have hbmq : bm < wq.heap.size := by omega
                              clear hat hatM x0 x2 x3 ej hby hbq hLq HAq HOq
                              generalize (a.m[j]).q = qj at *
                              generalize sumTo (fun i => (ckA a o.c).ch i + o.c) L i = si at *
                              generalize sumTo (fun i => (ckA a o.c).ch i + o.c) L L.length = st at *
                              have hw1 : IntKind.i64.wrap (qj + o.c) = qj + o.c := by rw [IntKind.wrap_i64]; omega
                              have hw2 : IntKind.i64.wrap (st - si - (qj + o.c)) = st - si - (qj + o.c) := by rw [IntKind.wrap_i64]; omega
                              subst es'
                              subst em
                              go_wp2_with fail
                              (refine wp_region_calm [] [0, 1, 2, 3, 4, 5, 6, 7, 8, 9, 10] 1 (by kernel_rfl) rfl (by kernel_rfl) (by kernel_rfl) (by kernel_rfl) ?_; simp only [pickB, List.filterMap_cons, List.filterMap_nil, List.getElem?_toArray, List.getElem?_cons_zero, List.getElem?_cons_succ]; (repeat (first | ((first | (with_reducible refine quietL_plain rfl (fun K hK => ?_)) | (with_reducible refine quietL_want (by with_unfolding_all rfl) (fun K hK => ?_))); (apply Exists.intro; refine ⟨fun wx hx => ?_, ?_⟩; (· (have hcx := ifs_ex hx); simp [go_sem, *, ↓IntWalk.iteOmega] <;> (first | rfl | exact ⟨rfl, rfl⟩ | fail)); (simp only [Act.put, List.setIfInBounds_toArray, List.set_cons_zero, List.set_cons_succ]; refine hK _ ?_; clear hK K))) | ((with_reducible refine quietL_skip (by with_unfolding_all rfl) ?_); simp only [Act.put, List.setIfInBounds_toArray, List.set_cons_zero, List.set_cons_succ]))); refine quietL_nil ?_)
                              (refine anyB_one (i := 11) (by kernel_rfl) rfl rfl ?_; intro w91 hb91 K hK; have hs91 := hb91.size; (try simp at hs91); go_wp2; refine ⟨xs_, ?_⟩)
                              (refine anyB_end (by kernel_rfl) ?_; intro w92 hb92; have hs92 := hb92.size; (try simp at hs92); simp only [Calm])
                              have HB9 := Lib.hid ((HBq.out.trans (hb91.mono hsq)).trans (hb92.mono (by omega)))
                              clear hb91 hb92
                              go_wp2_with fail
                              go_roundw
                              case rel => exact ⟨i + 1, by omega, by go_num, by rw [HSu.out]; go_num, HB9.out⟩
                              case measure => simp [intOf]; omega
                            · obtain rfl : i = L.length := by omega
                              clear hbq hLq HAq HOq
                              rw [Int.sub_self]
                              go_wp2_with fail
                              go_meet
                              case rel => exact ⟨rfl, HBq.out⟩
                      rename World => w41
                      obtain ⟨rfl, hb⟩ := hcut
                      clear HSp HVo HTo HOo
                      clear cHA lHA cHO lHO cHN lHN
                      have hs41 := hb.size
                      have HL' := Lib.hid (HL.out.trans (hb.mono HL.out.size)); clear HL; have HL := HL'; clear HL'
                      have HA' := Lib.hid (HA.out.kept hb); clear HA; have HA := HA'; clear HA'
                      have HO' := Lib.hid (HO.out.kept hb); clear HO; have HO := HO'; clear HO'
                      have FS' := Lib.hid (FS.out.kept hb); clear FS; have FS := FS'; clear FS'
                      have HN' := Lib.hid (HN.out.kept hb); clear HN; have HN := HN'; clear HN'
                      have HG' := Lib.hid (HG.out.kept hb); clear HG; have HG := HG'; clear HG'
                      have FT' := Lib.hid (FT.out.kept hb); clear FT; have FT := FT'; clear FT'
                      clear hb
                      have cHA := HA.out.cell
                      have lHA := HA.out.lt
                      have cHO := HO.out.cell
                      have lHO := HO.out.lt
                      have cHN := HN.out.cell
                      have lHN := HN.out.lt
                      clear cHA lHA cHO lHO
                      go_wp2_with fail
                      go_ret
                      exact ⟨by first | rfl | (simp; done), HL.out⟩
      · skip
        as_aux_lemma =>
          subst h0
          have hesn : (es != 0) = true := by simpa using h3
          have HS0 := Lib.hid (fun W A c hm hc => (HSt.out W A c hm hc).mono (fun e w' (h : _ ∧ _) => show e = .returned (.tuple #[.agg #[.slice none 0 0, .int .i64 0, .int .i64 0, .int .i64 0, .int .i64 0], .int .i64 es]) ∧ Below W.heap.size W w' from by
            obtain ⟨hb, ⟨h1, _⟩ | ⟨_, h1⟩⟩ := h
            · exact absurd h1 h3
            · exact ⟨h1, hb⟩))
          clear HSt
          go_enter Tryz.func7, Tryz.ntmps7
          go_wp2_with fail
          refine (HAw.out _ bl_).mono ?_
          rintro e w1 ⟨rfl, hb⟩
          have HA : Hid (Blk w1 w.heap.size 26 #[.slice A n c, .int .i64 a.lo, .int .i64 a.hi, .int .i64 a.cur, .int .i64 a.lim]) := Lib.hid bk_
          have HO : Hid (Blk w1 (w.heap.size + 1) 68 #[.int .i64 o.n, .int .i64 o.c]) := Lib.hid bk_
          have HL : Hid (Below w.heap.size w w1) := Lib.hid bl_
          have hs1 := HL.out.size
          clear hb
          have cHA := HA.out.cell
          have lHA := HA.out.lt
          have cHO := HO.out.cell
          have lHO := HO.out.lt
          go_wp2_with fail
          refine (HVa.out _ HL.out).mono ?_
          rintro e w2 ⟨rfl, hb⟩
          clear cHA lHA cHO lHO
          have hs2 := hb.size
          have HL' := Lib.hid (HL.out.trans (hb.mono HL.out.size)); clear HL; have HL := HL'; clear HL'
          have HA' := Lib.hid (HA.out.kept hb); clear HA; have HA := HA'; clear HA'
          have HO' := Lib.hid (HO.out.kept hb); clear HO; have HO := HO'; clear HO'
          clear hb
          have cHA := HA.out.cell
          have lHA := HA.out.lt
          have cHO := HO.out.cell
          have lHO := HO.out.lt
          go_wp2_with fail
          refine (HCo.out _).mono ?_
          rintro e w3 ⟨rfl, hb⟩
          clear cHA lHA cHO lHO
          have hs3 := hb.size
          have HL' := Lib.hid (HL.out.trans (hb.mono HL.out.size)); clear HL; have HL := HL'; clear HL'
          have HA' := Lib.hid (HA.out.kept hb); clear HA; have HA := HA'; clear HA'
          have HO' := Lib.hid (HO.out.kept hb); clear HO; have HO := HO'; clear HO'
          clear hb
          have cHA := HA.out.cell
          have lHA := HA.out.lt
          have cHO := HO.out.cell
          have lHO := HO.out.lt
          go_wp2_with fail
          (refine wp_region_calm [] [0, 2] 7 (by kernel_rfl) rfl (by kernel_rfl) (by kernel_rfl) (by kernel_rfl) ?_; simp only [pickB, List.filterMap_cons, List.filterMap_nil, List.getElem?_toArray, List.getElem?_cons_zero, List.getElem?_cons_succ]; (repeat (first | ((first | (with_reducible refine quietL_plain rfl (fun K hK => ?_)) | (with_reducible refine quietL_want (by with_unfolding_all rfl) (fun K hK => ?_))); (apply Exists.intro; refine ⟨fun wx hx => ?_, ?_⟩; (· (have hcx := ifs_ex hx); simp [go_sem, *, ↓IntWalk.iteOmega] <;> (first | rfl | exact ⟨rfl, rfl⟩ | fail)); (simp only [Act.put, List.setIfInBounds_toArray, List.set_cons_zero, List.set_cons_succ]; refine hK _ ?_; clear hK K))) | ((with_reducible refine quietL_skip (by with_unfolding_all rfl) ?_); simp only [Act.put, List.setIfInBounds_toArray, List.set_cons_zero, List.set_cons_succ]))); refine quietL_nil ?_)
          (refine anyB_one (i := 1) (by kernel_rfl) rfl rfl ?_; intro w4 hb4 K hK; have hs4 := hb4.size; (try simp at hs4); go_wp2_with fail)
          refine (HOw.out _ (HL.out.trans (hb4.mono HL.out.size))).mono ?_
          rintro e w5 ⟨Ao, co, rfl, hm, hc, hb5⟩
          have hs5 := hb5.size
          have HMo := Lib.hid hm; have HKo := Lib.hid hc; clear hm hc
          (go_wp2; refine ⟨xs_, ?_⟩)
          (refine anyB_one (i := 3) (by kernel_rfl) rfl rfl ?_; intro w6 hb6 K hK; have hs6 := hb6.size; (try simp at hs6); go_wp2_with fail)
          refine (HCh.out _ _ _ (ms_kept HMo.out hb6) HKo.out).mono ?_
          rintro e w7 ⟨v5, rfl, hr, _, hb7⟩
          have hs7 := hb7.size
          obtain ⟨A5, c5, rfl, _, _, hrd⟩ := own_form hr
          have HRd := Lib.hid hrd
          clear hr hrd HMo HKo
          (go_wp2; refine ⟨xs_, ?_⟩)
          (refine anyB_quiet_at (by kernel_rfl) calm_panic xs_ 2 [4, 5, 6] _ _ (by kernel_rfl) (by decide +kernel) ?_; simp only [pickB, List.filterMap_cons, List.filterMap_nil, List.getElem?_toArray, List.getElem?_cons_zero, List.getElem?_cons_succ]; (repeat (first | ((first | (with_reducible refine quietL_plain rfl (fun K hK => ?_)) | (with_reducible refine quietL_want (by with_unfolding_all rfl) (fun K hK => ?_))); (apply Exists.intro; refine ⟨fun wx hx => ?_, ?_⟩; (· (have hcx := ifs_ex hx); simp [go_sem, *, ↓IntWalk.iteOmega] <;> (first | rfl | exact ⟨rfl, rfl⟩ | fail)); (simp only [Act.put, List.setIfInBounds_toArray, List.set_cons_zero, List.set_cons_succ]; refine hK _ ?_; clear hK K))) | ((with_reducible refine quietL_skip (by with_unfolding_all rfl) ?_); simp only [Act.put, List.setIfInBounds_toArray, List.set_cons_zero, List.set_cons_succ]))); refine quietL_nil ?_)
          (refine anyB_one (i := 7) (by kernel_rfl) rfl rfl ?_; intro w8 hb8 K hK; have hs8 := hb8.size; (try simp at hs8); go_wp2; refine ⟨xs_, ?_⟩)
          (refine anyB_one (i := 8) (by kernel_rfl) rfl rfl ?_; intro w9 hb9 K hK; have hs9 := hb9.size; (try simp at hs9); go_wp2; refine ⟨xs_, ?_⟩)
          (refine anyB_end (by kernel_rfl) ?_; intro w10 hb10; have hs10 := hb10.size; (try simp at hs10); simp only [Calm])
          have FS := Lib.hid ((((⟨HRd.out⟩ : RdI w7 A5 _ _).kept hb8).kept hb9).kept hb10)
          clear HRd
          have hb := hb4.trans ((hb5.trans ((hb6.trans ((hb7.trans ((hb8.trans ((hb9.trans ((hb10).mono hs9)).mono hs8)).mono hs7)).mono hs6)).mono hs5)).mono hs4)
          clear hb4 hb5 hb6 hb7 hb8 hb9 hb10 hs4 hs5 hs6 hs7 hs8 hs9 hs10
          clear cHA lHA cHO lHO
          have hs10 := hb.size
          have HL' := Lib.hid (HL.out.trans (hb.mono HL.out.size)); clear HL; have HL := HL'; clear HL'
          have HA' := Lib.hid (HA.out.kept hb); clear HA; have HA := HA'; clear HA'
          have HO' := Lib.hid (HO.out.kept hb); clear HO; have HO := HO'; clear HO'
          clear hb
          have cHA := HA.out.cell
          have lHA := HA.out.lt
          have cHO := HO.out.cell
          have lHO := HO.out.lt
          as_aux_lemma =>
            go_wp2_with fail
            go_cut [7, 8] (fun s7 s8 wx => ∃ b7 : Nat, s7 = .pointer (some ⟨b7, 0, none⟩) ∧ s8 = .int .i64 es ∧ Below w10.heap.size w10 wx)
            case first =>
              as_aux_lemma =>
                have HP := Lib.hid (Below.refl w10.heap.size w10)
                (refine wp_region_calm [] [0, 2] 8 (by kernel_rfl) rfl (by kernel_rfl) (by kernel_rfl) (by kernel_rfl) ?_; simp only [pickB, List.filterMap_cons, List.filterMap_nil, List.getElem?_toArray, List.getElem?_cons_zero, List.getElem?_cons_succ]; (repeat (first | ((first | (with_reducible refine quietL_plain rfl (fun K hK => ?_)) | (with_reducible refine quietL_want (by with_unfolding_all rfl) (fun K hK => ?_))); (apply Exists.intro; refine ⟨fun wx hx => ?_, ?_⟩; (· (have hcx := ifs_ex hx); simp [go_sem, *, ↓IntWalk.iteOmega] <;> (first | rfl | exact ⟨rfl, rfl⟩ | skip)); (simp only [Act.put, List.setIfInBounds_toArray, List.set_cons_zero, List.set_cons_succ]; refine hK _ ?_; clear hK K))) | ((with_reducible refine quietL_skip (by with_unfolding_all rfl) ?_); simp only [Act.put, List.setIfInBounds_toArray, List.set_cons_zero, List.set_cons_succ]))); refine quietL_nil ?_)
                refine anyB_two (i := 1) (j := 7) (by kernel_rfl) rfl rfl rfl rfl ?_ ?_
                · skip
                  intro wc hbc K hK
                  have hsc := hbc.size
                  (try simp at hsc)
                  replace HP := Lib.hid (HP.out.trans (hbc.mono HP.out.size))
                  (try replace BB := Lib.hid (BB.out.kept hbc))
                  (try replace HMo := Lib.hid (ms_kept HMo.out hbc))
                  go_wp2_with fail
                  refine (HOw.out _ (HL.out.trans (HP.out.mono HL.out.size))).mono ?_
                  rintro e wd ⟨Ao, co, rfl, hm, hc, hbd⟩
                  have hsd := hbd.size
                  have HMo := Lib.hid hm; have HCo2 := Lib.hid hc; clear hm hc
                  replace HP := Lib.hid (HP.out.trans (hbd.mono HP.out.size))
                  (try replace BB := Lib.hid (BB.out.kept hbd))
                  go_wp2
                  refine ⟨xs_, ?_⟩
                  refine anyB_two (i := 3) (j := 7) (by kernel_rfl) rfl rfl rfl rfl ?_ ?_
                  · skip
                    intro we hbe K hK
                    have hse := hbe.size
                    (try simp at hse)
                    replace HP := Lib.hid (HP.out.trans (hbe.mono HP.out.size))
                    (try replace BB := Lib.hid (BB.out.kept hbe))
                    (try replace HMo := Lib.hid (ms_kept HMo.out hbe))
                    go_wp2_with fail
                    refine (HS0.out _ _ _ HMo.out HCo2.out).mono ?_
                    rintro e wf ⟨rfl, hbf⟩
                    have hsf := hbf.size
                    clear HMo HCo2
                    replace HP := Lib.hid (HP.out.trans (hbf.mono HP.out.size))
                    (try replace BB := Lib.hid (BB.out.kept hbf))
                    go_wp2
                    refine ⟨xs_, ?_⟩
                    (refine anyB_quiet_at (by kernel_rfl) calm_panic xs_ 3 [4, 5, 6] _ _ (by kernel_rfl) (by decide +kernel) ?_; simp only [pickB, List.filterMap_cons, List.filterMap_nil, List.getElem?_toArray, List.getElem?_cons_zero, List.getElem?_cons_succ]; (repeat (first | ((first | (with_reducible refine quietL_plain rfl (fun K hK => ?_)) | (with_reducible refine quietL_want (by with_unfolding_all rfl) (fun K hK => ?_))); (apply Exists.intro; refine ⟨fun wx hx => ?_, ?_⟩; (· (have hcx := ifs_ex hx); simp [go_sem, *, ↓IntWalk.iteOmega] <;> (first | rfl | exact ⟨rfl, rfl⟩ | fail)); (simp only [Act.put, List.setIfInBounds_toArray, List.set_cons_zero, List.set_cons_succ]; refine hK _ ?_; clear hK K))) | ((with_reducible refine quietL_skip (by with_unfolding_all rfl) ?_); simp only [Act.put, List.setIfInBounds_toArray, List.set_cons_zero, List.set_cons_succ]))); refine quietL_nil ?_)
                    refine anyB_one (i := 7) (by kernel_rfl) rfl rfl ?_
                    intro wh hbh K hK
                    have hsh := hbh.size
                    (try simp at hsh)
                    replace HP := Lib.hid (HP.out.trans (hbh.mono HP.out.size))
                    (try replace HMo := Lib.hid (ms_kept HMo.out hbh))
                    (try replace HG := Lib.hid (HG.out.kept hbh))
                    have hbx : Below wh.heap.size wh (wh.alloc (.cells #[.slice none 0 0, .int .i64 0, .int .i64 0, .int .i64 0, .int .i64 0] 35)) := (Below.refl _ _).alloc (Nat.le_refl _) _
                    replace HP := Lib.hid (HP.out.trans (hbx.mono HP.out.size))
                    (try replace HMo := Lib.hid (ms_kept HMo.out hbx))
                    (try replace HG := Lib.hid (HG.out.kept hbx))
                    have BB := Lib.hid (Blk.new wh 35 #[.slice none 0 0, .int .i64 0, .int .i64 0, .int .i64 0, .int .i64 0])
                    have hwh := HP.out.size
                    clear hbx
                    go_wp2
                    refine ⟨xs_, ?_⟩
                    refine anyB_one (i := 8) (by kernel_rfl) rfl rfl ?_
                    intro wi hbi K hK
                    have hsi := hbi.size
                    (try simp at hsi)
                    replace HP := Lib.hid (HP.out.trans (hbi.mono HP.out.size))
                    replace BB := Lib.hid (BB.out.kept hbi)
                    (try replace HG := Lib.hid (HG.out.kept hbi))
                    have cB := BB.out.cell
                    have fB := BB.out.frozen
                    have lB := BB.out.lt
                    go_wp2
                    refine ⟨xs_, ?_⟩
                    have BC := Lib.hid (put5_blk (v0 := .slice none 0 0) (v1 := .int .i64 0) (v2 := .int .i64 0) (v3 := .int .i64 0) (v4 := .int .i64 0) BB.out)
                    have HPc := Lib.hid (put5_low (b := wh.heap.size) (v0 := .slice none 0 0) (v1 := .int .i64 0) (v2 := .int .i64 0) (v3 := .int .i64 0) (v4 := .int .i64 0) HP.out (by omega))
                    (try have HGc := Lib.hid (put5_far (b := wh.heap.size) (v0 := .slice none 0 0) (v1 := .int .i64 0) (v2 := .int .i64 0) (v3 := .int .i64 0) (v4 := .int .i64 0) HG.out (blk_ne HG.out BB.out (by decide))))
                    clear cB fB lB HP BB
                    refine anyB_one (i := 9) (by kernel_rfl) rfl rfl ?_
                    intro wj hbj K hK
                    have hsj := hbj.size
                    (try simp at hsj)
                    go_wp2
                    refine ⟨xs_, ?_⟩
                    refine anyB_end (by kernel_rfl) ?_
                    intro wk hbk
                    have hsk := hbk.size
                    simp only [Calm]
                    have BE := Lib.hid ((BC.out.kept hbj).kept hbk)
                    have HPe := Lib.hid ((HPc.out.trans (hbj.mono HPc.out.size)).trans (hbk.mono (by have := HPc.out.size; omega)))
                    (try have HGe := Lib.hid ((HGc.out.kept hbj).kept hbk))
                    go_wp2_with fail
                    go_meet
                    case rel => exact ⟨wh.heap.size, rfl, rfl, HPe.out⟩
                  · skip
                    intro wh hbh K hK
                    have hsh := hbh.size
                    (try simp at hsh)
                    replace HP := Lib.hid (HP.out.trans (hbh.mono HP.out.size))
                    (try replace HMo := Lib.hid (ms_kept HMo.out hbh))
                    (try replace HG := Lib.hid (HG.out.kept hbh))
                    have hbx : Below wh.heap.size wh (wh.alloc (.cells #[.slice none 0 0, .int .i64 0, .int .i64 0, .int .i64 0, .int .i64 0] 35)) := (Below.refl _ _).alloc (Nat.le_refl _) _
                    replace HP := Lib.hid (HP.out.trans (hbx.mono HP.out.size))
                    (try replace HMo := Lib.hid (ms_kept HMo.out hbx))
                    (try replace HG := Lib.hid (HG.out.kept hbx))
                    have BB := Lib.hid (Blk.new wh 35 #[.slice none 0 0, .int .i64 0, .int .i64 0, .int .i64 0, .int .i64 0])
                    have hwh := HP.out.size
                    clear hbx
                    go_wp2
                    refine ⟨xs_, ?_⟩
                    refine anyB_one (i := 3) (by kernel_rfl) rfl rfl ?_
                    intro we hbe K hK
                    have hse := hbe.size
                    (try simp at hse)
                    replace HP := Lib.hid (HP.out.trans (hbe.mono HP.out.size))
                    (try replace BB := Lib.hid (BB.out.kept hbe))
                    (try replace HMo := Lib.hid (ms_kept HMo.out hbe))
                    go_wp2_with fail
                    refine (HS0.out _ _ _ HMo.out HCo2.out).mono ?_
                    rintro e wf ⟨rfl, hbf⟩
                    have hsf := hbf.size
                    clear HMo HCo2
                    replace HP := Lib.hid (HP.out.trans (hbf.mono HP.out.size))
                    (try replace BB := Lib.hid (BB.out.kept hbf))
                    go_wp2
                    refine ⟨xs_, ?_⟩
                    (refine anyB_quiet_at (by kernel_rfl) calm_panic xs_ 2 [4, 5, 6] _ _ (by kernel_rfl) (by decide +kernel) ?_; simp only [pickB, List.filterMap_cons, List.filterMap_nil, List.getElem?_toArray, List.getElem?_cons_zero, List.getElem?_cons_succ]; (repeat (first | ((first | (with_reducible refine quietL_plain rfl (fun K hK => ?_)) | (with_reducible refine quietL_want (by with_unfolding_all rfl) (fun K hK => ?_))); (apply Exists.intro; refine ⟨fun wx hx => ?_, ?_⟩; (· (have hcx := ifs_ex hx); simp [go_sem, *, ↓IntWalk.iteOmega] <;> (first | rfl | exact ⟨rfl, rfl⟩ | fail)); (simp only [Act.put, List.setIfInBounds_toArray, List.set_cons_zero, List.set_cons_succ]; refine hK _ ?_; clear hK K))) | ((with_reducible refine quietL_skip (by with_unfolding_all rfl) ?_); simp only [Act.put, List.setIfInBounds_toArray, List.set_cons_zero, List.set_cons_succ]))); refine quietL_nil ?_)
                    refine anyB_one (i := 8) (by kernel_rfl) rfl rfl ?_
                    intro wi hbi K hK
                    have hsi := hbi.size
                    (try simp at hsi)
                    replace HP := Lib.hid (HP.out.trans (hbi.mono HP.out.size))
                    replace BB := Lib.hid (BB.out.kept hbi)
                    (try replace HG := Lib.hid (HG.out.kept hbi))
                    have cB := BB.out.cell
                    have fB := BB.out.frozen
                    have lB := BB.out.lt
                    go_wp2
                    refine ⟨xs_, ?_⟩
                    have BC := Lib.hid (put5_blk (v0 := .slice none 0 0) (v1 := .int .i64 0) (v2 := .int .i64 0) (v3 := .int .i64 0) (v4 := .int .i64 0) BB.out)
                    have HPc := Lib.hid (put5_low (b := wh.heap.size) (v0 := .slice none 0 0) (v1 := .int .i64 0) (v2 := .int .i64 0) (v3 := .int .i64 0) (v4 := .int .i64 0) HP.out (by omega))
                    (try have HGc := Lib.hid (put5_far (b := wh.heap.size) (v0 := .slice none 0 0) (v1 := .int .i64 0) (v2 := .int .i64 0) (v3 := .int .i64 0) (v4 := .int .i64 0) HG.out (blk_ne HG.out BB.out (by decide))))
                    clear cB fB lB HP BB
                    refine anyB_one (i := 9) (by kernel_rfl) rfl rfl ?_
                    intro wj hbj K hK
                    have hsj := hbj.size
                    (try simp at hsj)
                    go_wp2
                    refine ⟨xs_, ?_⟩
                    refine anyB_end (by kernel_rfl) ?_
                    intro wk hbk
                    have hsk := hbk.size
                    simp only [Calm]
                    have BE := Lib.hid ((BC.out.kept hbj).kept hbk)
                    have HPe := Lib.hid ((HPc.out.trans (hbj.mono HPc.out.size)).trans (hbk.mono (by have := HPc.out.size; omega)))
                    (try have HGe := Lib.hid ((HGc.out.kept hbj).kept hbk))
                    go_wp2_with fail
                    go_meet
                    case rel => exact ⟨wh.heap.size, rfl, rfl, HPe.out⟩
                · skip
                  intro wh hbh K hK
                  have hsh := hbh.size
                  (try simp at hsh)
                  replace HP := Lib.hid (HP.out.trans (hbh.mono HP.out.size))
                  (try replace HMo := Lib.hid (ms_kept HMo.out hbh))
                  (try replace HG := Lib.hid (HG.out.kept hbh))
                  have hbx : Below wh.heap.size wh (wh.alloc (.cells #[.slice none 0 0, .int .i64 0, .int .i64 0, .int .i64 0, .int .i64 0] 35)) := (Below.refl _ _).alloc (Nat.le_refl _) _
                  replace HP := Lib.hid (HP.out.trans (hbx.mono HP.out.size))
                  (try replace HMo := Lib.hid (ms_kept HMo.out hbx))
                  (try replace HG := Lib.hid (HG.out.kept hbx))
                  have BB := Lib.hid (Blk.new wh 35 #[.slice none 0 0, .int .i64 0, .int .i64 0, .int .i64 0, .int .i64 0])
                  have hwh := HP.out.size
                  clear hbx
                  go_wp2
                  refine ⟨xs_, ?_⟩
                  refine anyB_one (i := 1) (by kernel_rfl) rfl rfl ?_
                  intro wc hbc K hK
                  have hsc := hbc.size
                  (try simp at hsc)
                  replace HP := Lib.hid (HP.out.trans (hbc.mono HP.out.size))
                  (try replace BB := Lib.hid (BB.out.kept hbc))
                  (try replace HMo := Lib.hid (ms_kept HMo.out hbc))
                  go_wp2_with fail
                  refine (HOw.out _ (HL.out.trans (HP.out.mono HL.out.size))).mono ?_
                  rintro e wd ⟨Ao, co, rfl, hm, hc, hbd⟩
                  have hsd := hbd.size
                  have HMo := Lib.hid hm; have HCo2 := Lib.hid hc; clear hm hc
                  replace HP := Lib.hid (HP.out.trans (hbd.mono HP.out.size))
                  (try replace BB := Lib.hid (BB.out.kept hbd))
                  go_wp2
                  refine ⟨xs_, ?_⟩
                  refine anyB_one (i := 3) (by kernel_rfl) rfl rfl ?_
                  intro we hbe K hK
                  have hse := hbe.size
                  (try simp at hse)
                  replace HP := Lib.hid (HP.out.trans (hbe.mono HP.out.size))
                  (try replace BB := Lib.hid (BB.out.kept hbe))
                  (try replace HMo := Lib.hid (ms_kept HMo.out hbe))
                  go_wp2_with fail
                  refine (HS0.out _ _ _ HMo.out HCo2.out).mono ?_
                  rintro e wf ⟨rfl, hbf⟩
                  have hsf := hbf.size
                  clear HMo HCo2
                  replace HP := Lib.hid (HP.out.trans (hbf.mono HP.out.size))
                  (try replace BB := Lib.hid (BB.out.kept hbf))
                  go_wp2
                  refine ⟨xs_, ?_⟩
                  (refine anyB_quiet_at (by kernel_rfl) calm_panic xs_ 2 [4, 5, 6] _ _ (by kernel_rfl) (by decide +kernel) ?_; simp only [pickB, List.filterMap_cons, List.filterMap_nil, List.getElem?_toArray, List.getElem?_cons_zero, List.getElem?_cons_succ]; (repeat (first | ((first | (with_reducible refine quietL_plain rfl (fun K hK => ?_)) | (with_reducible refine quietL_want (by with_unfolding_all rfl) (fun K hK => ?_))); (apply Exists.intro; refine ⟨fun wx hx => ?_, ?_⟩; (· (have hcx := ifs_ex hx); simp [go_sem, *, ↓IntWalk.iteOmega] <;> (first | rfl | exact ⟨rfl, rfl⟩ | fail)); (simp only [Act.put, List.setIfInBounds_toArray, List.set_cons_zero, List.set_cons_succ]; refine hK _ ?_; clear hK K))) | ((with_reducible refine quietL_skip (by with_unfolding_all rfl) ?_); simp only [Act.put, List.setIfInBounds_toArray, List.set_cons_zero, List.set_cons_succ]))); refine quietL_nil ?_)
                  refine anyB_one (i := 8) (by kernel_rfl) rfl rfl ?_
                  intro wi hbi K hK
                  have hsi := hbi.size
                  (try simp at hsi)
                  replace HP := Lib.hid (HP.out.trans (hbi.mono HP.out.size))
                  replace BB := Lib.hid (BB.out.kept hbi)
                  (try replace HG := Lib.hid (HG.out.kept hbi))
                  have cB := BB.out.cell
                  have fB := BB.out.frozen
                  have lB := BB.out.lt
                  go_wp2
                  refine ⟨xs_, ?_⟩
                  have BC := Lib.hid (put5_blk (v0 := .slice none 0 0) (v1 := .int .i64 0) (v2 := .int .i64 0) (v3 := .int .i64 0) (v4 := .int .i64 0) BB.out)
                  have HPc := Lib.hid (put5_low (b := wh.heap.size) (v0 := .slice none 0 0) (v1 := .int .i64 0) (v2 := .int .i64 0) (v3 := .int .i64 0) (v4 := .int .i64 0) HP.out (by omega))
                  (try have HGc := Lib.hid (put5_far (b := wh.heap.size) (v0 := .slice none 0 0) (v1 := .int .i64 0) (v2 := .int .i64 0) (v3 := .int .i64 0) (v4 := .int .i64 0) HG.out (blk_ne HG.out BB.out (by decide))))
                  clear cB fB lB HP BB
                  refine anyB_one (i := 9) (by kernel_rfl) rfl rfl ?_
                  intro wj hbj K hK
                  have hsj := hbj.size
                  (try simp at hsj)
                  go_wp2
                  refine ⟨xs_, ?_⟩
                  refine anyB_end (by kernel_rfl) ?_
                  intro wk hbk
                  have hsk := hbk.size
                  simp only [Calm]
                  have BE := Lib.hid ((BC.out.kept hbj).kept hbk)
                  have HPe := Lib.hid ((HPc.out.trans (hbj.mono HPc.out.size)).trans (hbk.mono (by have := HPc.out.size; omega)))
                  (try have HGe := Lib.hid ((HGc.out.kept hbj).kept hbk))
                  go_wp2_with fail
                  go_meet
                  case rel => exact ⟨wh.heap.size, rfl, rfl, HPe.out⟩
            rename World => w11
            obtain ⟨b7, rfl, rfl, hb⟩ := hcut
            clear HS0
            clear cHA lHA cHO lHO
            have hs11 := hb.size
            have HL' := Lib.hid (HL.out.trans (hb.mono HL.out.size)); clear HL; have HL := HL'; clear HL'
            have HA' := Lib.hid (HA.out.kept hb); clear HA; have HA := HA'; clear HA'
            have HO' := Lib.hid (HO.out.kept hb); clear HO; have HO := HO'; clear HO'
            have FS' := Lib.hid (FS.out.kept hb); clear FS; have FS := FS'; clear FS'
            clear hb
            have cHA := HA.out.cell
            have lHA := HA.out.lt
            have cHO := HO.out.cell
            have lHO := HO.out.lt
            as_aux_lemma =>
              go_wp2_with fail
              (refine wp_region_calm [] [0, 2] 7 (by kernel_rfl) rfl (by kernel_rfl) (by kernel_rfl) (by kernel_rfl) ?_; simp only [pickB, List.filterMap_cons, List.filterMap_nil, List.getElem?_toArray, List.getElem?_cons_zero, List.getElem?_cons_succ]; (repeat (first | ((first | (with_reducible refine quietL_plain rfl (fun K hK => ?_)) | (with_reducible refine quietL_want (by with_unfolding_all rfl) (fun K hK => ?_))); (apply Exists.intro; refine ⟨fun wx hx => ?_, ?_⟩; (· (have hcx := ifs_ex hx); simp [go_sem, *, ↓IntWalk.iteOmega] <;> (first | rfl | exact ⟨rfl, rfl⟩ | fail)); (simp only [Act.put, List.setIfInBounds_toArray, List.set_cons_zero, List.set_cons_succ]; refine hK _ ?_; clear hK K))) | ((with_reducible refine quietL_skip (by with_unfolding_all rfl) ?_); simp only [Act.put, List.setIfInBounds_toArray, List.set_cons_zero, List.set_cons_succ]))); refine quietL_nil ?_)
              (refine anyB_one (i := 1) (by kernel_rfl) rfl rfl ?_; intro w12 hb12 K hK; have hs12 := hb12.size; (try simp at hs12); go_wp2_with fail)
              refine (HOw.out _ (HL.out.trans (hb12.mono HL.out.size))).mono ?_
              rintro e w13 ⟨Ao, co, rfl, hm, hc, hb13⟩
              have hs13 := hb13.size
              have HMo := Lib.hid hm; have HKo := Lib.hid hc; clear hm hc
              (go_wp2; refine ⟨xs_, ?_⟩)
              (refine anyB_one (i := 3) (by kernel_rfl) rfl rfl ?_; intro w14 hb14 K hK; have hs14 := hb14.size; (try simp at hs14); go_wp2_with fail)
              refine (HBo.out _ _ _ (ms_kept HMo.out hb14) HKo.out).mono ?_
              rintro e w15 ⟨rfl, hb15⟩
              have hs15 := hb15.size
              clear HMo HKo
              (go_wp2; refine ⟨xs_, ?_⟩)
              (refine anyB_quiet_at (by kernel_rfl) calm_panic xs_ 2 [4, 5, 6] _ _ (by kernel_rfl) (by decide +kernel) ?_; simp only [pickB, List.filterMap_cons, List.filterMap_nil, List.getElem?_toArray, List.getElem?_cons_zero, List.getElem?_cons_succ]; (repeat (first | ((first | (with_reducible refine quietL_plain rfl (fun K hK => ?_)) | (with_reducible refine quietL_want (by with_unfolding_all rfl) (fun K hK => ?_))); (apply Exists.intro; refine ⟨fun wx hx => ?_, ?_⟩; (· (have hcx := ifs_ex hx); simp [go_sem, *, ↓IntWalk.iteOmega] <;> (first | rfl | exact ⟨rfl, rfl⟩ | fail)); (simp only [Act.put, List.setIfInBounds_toArray, List.set_cons_zero, List.set_cons_succ]; refine hK _ ?_; clear hK K))) | ((with_reducible refine quietL_skip (by with_unfolding_all rfl) ?_); simp only [Act.put, List.setIfInBounds_toArray, List.set_cons_zero, List.set_cons_succ]))); refine quietL_nil ?_)
              (refine anyB_one (i := 7) (by kernel_rfl) rfl rfl ?_; intro w16 hb16 K hK; have hs16 := hb16.size; (try simp at hs16); go_wp2; refine ⟨xs_, ?_⟩)
              (refine anyB_one (i := 8) (by kernel_rfl) rfl rfl ?_; intro w17 hb17 K hK; have hs17 := hb17.size; (try simp at hs17); go_wp2; refine ⟨xs_, ?_⟩)
              (refine anyB_end (by kernel_rfl) ?_; intro w18 hb18; have hs18 := hb18.size; (try simp at hs18); simp only [Calm])
              have hb := hb12.trans ((hb13.trans ((hb14.trans ((hb15.trans ((hb16.trans ((hb17.trans ((hb18).mono hs17)).mono hs16)).mono hs15)).mono hs14)).mono hs13)).mono hs12)
              clear hb12 hb13 hb14 hb15 hb16 hb17 hb18 hs12 hs13 hs14 hs15 hs16 hs17 hs18
              clear cHA lHA cHO lHO
              have hs18 := hb.size
              have HL' := Lib.hid (HL.out.trans (hb.mono HL.out.size)); clear HL; have HL := HL'; clear HL'
              have HA' := Lib.hid (HA.out.kept hb); clear HA; have HA := HA'; clear HA'
              have HO' := Lib.hid (HO.out.kept hb); clear HO; have HO := HO'; clear HO'
              have FS' := Lib.hid (FS.out.kept hb); clear FS; have FS := FS'; clear FS'
              clear hb
              have cHA := HA.out.cell
              have lHA := HA.out.lt
              have cHO := HO.out.cell
              have lHO := HO.out.lt
              as_aux_lemma =>
                go_wp2_with fail
                refine (HOw.out _ HL.out).mono ?_
                rintro e w19 ⟨A19, c19, rfl, hm, hc, hb⟩
                have HM19 := Lib.hid hm; have HC19 := Lib.hid hc; clear hm hc
                clear cHA lHA cHO lHO
                have hs19 := hb.size
                have HL' := Lib.hid (HL.out.trans (hb.mono HL.out.size)); clear HL; have HL := HL'; clear HL'
                have HA' := Lib.hid (HA.out.kept hb); clear HA; have HA := HA'; clear HA'
                have HO' := Lib.hid (HO.out.kept hb); clear HO; have HO := HO'; clear HO'
                have FS' := Lib.hid (FS.out.kept hb); clear FS; have FS := FS'; clear FS'
                clear hb
                have cHA := HA.out.cell
                have lHA := HA.out.lt
                have cHO := HO.out.cell
                have lHO := HO.out.lt
                go_wp2_with fail
                refine (HIn.out _ _ _ _ _ FS.out.out (by omega)).mono ?_
                rintro e w20 ⟨A20, c20, rfl, hrd, hb⟩
                have HR20 := Lib.hid hrd; clear hrd; have HM192 := Lib.hid (ms_kept HM19.out hb); clear HM19
                clear cHA lHA cHO lHO
                have hs20 := hb.size
                have HL' := Lib.hid (HL.out.trans (hb.mono HL.out.size)); clear HL; have HL := HL'; clear HL'
                have HA' := Lib.hid (HA.out.kept hb); clear HA; have HA := HA'; clear HA'
                have HO' := Lib.hid (HO.out.kept hb); clear HO; have HO := HO'; clear HO'
                have FS' := Lib.hid (FS.out.kept hb); clear FS; have FS := FS'; clear FS'
                clear hb
                have cHA := HA.out.cell
                have lHA := HA.out.lt
                have cHO := HO.out.cell
                have lHO := HO.out.lt
                go_wp2_with fail
                refine (HCg.out _ _ _ _ _ _ HM192.out HC19.out HR20.out (by omega)).mono ?_
                rintro e w21 ⟨rfl, hb⟩
                clear HM192 HC19 HR20
                clear cHA lHA cHO lHO
                have hs21 := hb.size
                have HL' := Lib.hid (HL.out.trans (hb.mono HL.out.size)); clear HL; have HL := HL'; clear HL'
                have HA' := Lib.hid (HA.out.kept hb); clear HA; have HA := HA'; clear HA'
                have HO' := Lib.hid (HO.out.kept hb); clear HO; have HO := HO'; clear HO'
                have FS' := Lib.hid (FS.out.kept hb); clear FS; have FS := FS'; clear FS'
                clear hb
                have cHA := HA.out.cell
                have lHA := HA.out.lt
                have cHO := HO.out.cell
                have lHO := HO.out.lt
                go_wp2_with fail
                refine (HOw.out _ HL.out).mono ?_
                rintro e w22 ⟨A22, c22, rfl, hm, hc, hb⟩
                have HM22 := Lib.hid hm; have HC22 := Lib.hid hc; clear hm hc
                clear cHA lHA cHO lHO
                have hs22 := hb.size
                have HL' := Lib.hid (HL.out.trans (hb.mono HL.out.size)); clear HL; have HL := HL'; clear HL'
                have HA' := Lib.hid (HA.out.kept hb); clear HA; have HA := HA'; clear HA'
                have HO' := Lib.hid (HO.out.kept hb); clear HO; have HO := HO'; clear HO'
                have FS' := Lib.hid (FS.out.kept hb); clear FS; have FS := FS'; clear FS'
                clear hb
                have cHA := HA.out.cell
                have lHA := HA.out.lt
                have cHO := HO.out.cell
                have lHO := HO.out.lt
                go_upto_region 11 with fail
                refine wp_world ?_
                intro w23 hW13
                have hb : Below w22.heap.size w22 w23 := by rw [hW13]; exact (Below.refl _ _).alloc (Nat.le_refl _) _
                have HX := Lib.hid (show Blk w23 w22.heap.size 35 #[.slice A22 n c22, .int .i64 a.lo, .int .i64 a.hi, .int .i64 a.cur, .int .i64 16] from by rw [hW13]; exact Blk.new _ _ _)
                have HM222 := Lib.hid (ms_kept HM22.out hb)
                clear hW13 HM22 HC22
                clear cHA lHA cHO lHO
                have hs23 := hb.size
                have HL' := Lib.hid (HL.out.trans (hb.mono HL.out.size)); clear HL; have HL := HL'; clear HL'
                have HA' := Lib.hid (HA.out.kept hb); clear HA; have HA := HA'; clear HA'
                have HO' := Lib.hid (HO.out.kept hb); clear HO; have HO := HO'; clear HO'
                have FS' := Lib.hid (FS.out.kept hb); clear FS; have FS := FS'; clear FS'
                clear hb
                have cHA := HA.out.cell
                have lHA := HA.out.lt
                have cHO := HO.out.cell
                have lHO := HO.out.lt
                have cX := HX.out.cell
                have lX := HX.out.lt
                as_aux_lemma =>
                  (refine wp_region_calm [] [0, 3] 8 (by kernel_rfl) rfl (by kernel_rfl) (by kernel_rfl) (by kernel_rfl) ?_; simp only [pickB, List.filterMap_cons, List.filterMap_nil, List.getElem?_toArray, List.getElem?_cons_zero, List.getElem?_cons_succ]; (repeat (first | ((first | (with_reducible refine quietL_plain rfl (fun K hK => ?_)) | (with_reducible refine quietL_want (by with_unfolding_all rfl) (fun K hK => ?_))); (apply Exists.intro; refine ⟨fun wx hx => ?_, ?_⟩; (· (have hcx := ifs_ex hx); simp [go_sem, *, ↓IntWalk.iteOmega] <;> (first | rfl | exact ⟨rfl, rfl⟩ | fail)); (simp only [Act.put, List.setIfInBounds_toArray, List.set_cons_zero, List.set_cons_succ]; refine hK _ ?_; clear hK K))) | ((with_reducible refine quietL_skip (by with_unfolding_all rfl) ?_); simp only [Act.put, List.setIfInBounds_toArray, List.set_cons_zero, List.set_cons_succ]))); refine quietL_nil ?_)
                  (refine anyB_one (i := 1) (by kernel_rfl) rfl rfl ?_; intro w24 hb24 K hK; have hs24 := hb24.size; (try simp at hs24); go_wp2_with fail)
                  refine (HFt.out _ _ _ (ms_kept HM222.out hb24)).mono ?_
                  rintro e w25 ⟨At, ct, rfl, hm, _, hb25⟩
                  have hs25 := hb25.size
                  have HMt := Lib.hid hm; clear hm
                  (go_wp2; refine ⟨xs_, ?_⟩)
                  (refine anyB_one (i := 2) (by kernel_rfl) rfl rfl ?_; intro w26 hb26 K hK; have hs26 := hb26.size; (try simp at hs26); go_wp2_with fail)
                  refine (HFo.out _ _ _ (ms_kept HMt.out hb26)).mono ?_
                  rintro e w27 ⟨Ao, co, rfl, hm, hc, hb27⟩
                  have hs27 := hb27.size
                  have HMo := Lib.hid hm; have HKo := Lib.hid hc; clear hm hc HMt
                  (go_wp2; refine ⟨xs_, ?_⟩)
                  (refine anyB_one (i := 4) (by kernel_rfl) rfl rfl ?_; intro w28 hb28 K hK; have hs28 := hb28.size; (try simp at hs28); go_wp2_with fail)
                  refine (HFc.out _ _ _ (ms_kept HMo.out hb28) HKo.out).mono ?_
                  rintro e w29 ⟨v14, rfl, hr, _, hb29⟩
                  have hs29 := hb29.size
                  obtain ⟨A14, c14, rfl, _, _, hrd⟩ := own_form hr
                  have HRd := Lib.hid hrd
                  clear hr hrd HMo HKo
                  (go_wp2; refine ⟨xs_, ?_⟩)
                  (refine anyB_quiet_at (by kernel_rfl) calm_panic xs_ 2 [5, 6, 7] _ _ (by kernel_rfl) (by decide +kernel) ?_; simp only [pickB, List.filterMap_cons, List.filterMap_nil, List.getElem?_toArray, List.getElem?_cons_zero, List.getElem?_cons_succ]; (repeat (first | ((first | (with_reducible refine quietL_plain rfl (fun K hK => ?_)) | (with_reducible refine quietL_want (by with_unfolding_all rfl) (fun K hK => ?_))); (apply Exists.intro; refine ⟨fun wx hx => ?_, ?_⟩; (· (have hcx := ifs_ex hx); simp [go_sem, *, ↓IntWalk.iteOmega] <;> (first | rfl | exact ⟨rfl, rfl⟩ | fail)); (simp only [Act.put, List.setIfInBounds_toArray, List.set_cons_zero, List.set_cons_succ]; refine hK _ ?_; clear hK K))) | ((with_reducible refine quietL_skip (by with_unfolding_all rfl) ?_); simp only [Act.put, List.setIfInBounds_toArray, List.set_cons_zero, List.set_cons_succ]))); refine quietL_nil ?_)
                  (refine anyB_one (i := 8) (by kernel_rfl) rfl rfl ?_; intro w30 hb30 K hK; have hs30 := hb30.size; (try simp at hs30); go_wp2; refine ⟨xs_, ?_⟩)
                  (refine anyB_one (i := 9) (by kernel_rfl) rfl rfl ?_; intro w31 hb31 K hK; have hs31 := hb31.size; (try simp at hs31); go_wp2; refine ⟨xs_, ?_⟩)
                  (refine anyB_end (by kernel_rfl) ?_; intro w32 hb32; have hs32 := hb32.size; (try simp at hs32); simp only [Calm])
                  have FT := Lib.hid ((((⟨HRd.out⟩ : RdI w29 A14 _ _).kept hb30).kept hb31).kept hb32)
                  clear HRd HX cX lX HM222
                  have hb := hb24.trans ((hb25.trans ((hb26.trans ((hb27.trans ((hb28.trans ((hb29.trans ((hb30.trans ((hb31.trans ((hb32).mono hs31)).mono hs30)).mono hs29)).mono hs28)).mono hs27)).mono hs26)).mono hs25)).mono hs24)
                  clear hb24 hb25 hb26 hb27 hb28 hb29 hb30 hb31 hb32 hs24 hs25 hs26 hs27 hs28 hs29 hs30 hs31 hs32
                  clear cHA lHA cHO lHO
                  have hs32 := hb.size
                  have HL' := Lib.hid (HL.out.trans (hb.mono HL.out.size)); clear HL; have HL := HL'; clear HL'
                  have HA' := Lib.hid (HA.out.kept hb); clear HA; have HA := HA'; clear HA'
                  have HO' := Lib.hid (HO.out.kept hb); clear HO; have HO := HO'; clear HO'
                  have FS' := Lib.hid (FS.out.kept hb); clear FS; have FS := FS'; clear FS'
                  clear hb
                  have cHA := HA.out.cell
                  have lHA := HA.out.lt
                  have cHO := HO.out.cell
                  have lHO := HO.out.lt
                  as_aux_lemma =>
                    have hef0 : ef = 0 := HFr.out.1 (by simp)
                    subst hef0
                    have hEn := HEn.out
                    have hr := HEr.out
                    have hrf := HEf.out
                    have hLc : L = choiceA a o := HLe.out.symm.trans (cho_ok hEn.1 hEn.2.1 hr)
                    have hL2c : L2 = choiceA (freeA a) o := HL2e.out.symm.trans (cho_ok (free_ok hEn.1) hEn.2.1 hrf)
                    obtain ⟨hs1, hs2⟩ := cho_set hEn.1 hEn.2.1 hr
                    have hce0 : ce = 0 := by rw [← HCe.out, hLc]; exact hs1
                    have hcl : cv ≤ a.lim := by rw [← HCv.out, hLc]; exact hs2
                    subst hce0
                    have hoz := order_zero hEn.2.1
                    have hn1 : (L.length : Int) = o.n := by rw [hLc]; exact choice_len (fit_of hEn.1) hoz.1.1 hr
                    have hn2 : (L2.length : Int) = o.n := by rw [hL2c]; exact choice_len (fit_of (free_ok hEn.1)) hoz.1.1 hrf
                    have hul := us_len_le a
                    have hrz := ref_zero hr
                    rw [hEn.2.2.2] at hul
                    have q1 : ((L.length : Int) != o.n) = false := by simpa using hn1
                    have q2 : ((L2.length : Int) != o.n) = false := by simpa using hn2
                    have q3 : decide ((n : Int) < (L.length : Int)) = false := by simp; omega
                    have q4 : decide (a.lim < cv) = false := by simp; omega
                    have q3n : ¬ n < L.length := by omega
                    have q4n : ¬ a.lim < cv := by omega
                    have HEl : Hid (∀ z ∈ L, ∃ j, ∃ h : j < a.m.length, z = (j : Int) ∧ (a.m[j]).by_ = false) := Lib.hid (by rw [hLc]; exact fun z hz => cho_at hEn.1 hEn.2.1 hr hz)
                    have HEl2 : Hid (∀ z ∈ L2, ∃ j, ∃ h : j < a.m.length, z = (j : Int) ∧ (a.m[j]).by_ = false) := Lib.hid (by rw [hL2c]; exact fun z hz => cho_at (free_ok hEn.1) hEn.2.1 hrf hz)
                    have HBs : Hid (∀ i j, (hi : i < a.m.length) → (hj : j < a.m.length) → (a.m[i]).by_ = false → hasI L2 (i : Int) = false → (j : Int) ∈ L2 → strictB (a.m[i]).q (a.m[j]).q o.c = false) := Lib.hid (fun i j hi hj hb hh hm => by
                      have := free_best hEn.1 hEn.2.1 hrf (i := (i : Int)) (k := (j : Int)) (mem_idxs.2 ⟨i, hi, by omega, by unfold usB; rw [hb]; rfl⟩) (by rw [← hL2c]; exact hh) (by rw [← hL2c]; exact hm)
                      rwa [ckA_q hi, ckA_q hj] at this)
                    have HLc := Lib.hid hLc
                    clear hEn hr hrf hLc hL2c hs1 hs2 hn1 hn2 hul hrz hcl
                    go_upto_block 0 with fail
                    go_cut [] (fun wx => Below w32.heap.size w32 wx)
                    case first =>
                      as_aux_lemma =>
                        clear q1 q2 q3 q4 q3n q4n
                        have FS1 := FS; have FT1 := FT; have HA1 := HA; have HL1 := HL
                        clear FS FT HA HL cHA lHA HO cHO lHO
                        go_wp2_with fail
                        go_loopw [149] (fun s149 wr => ∃ q : Int, (q = 0 ∨ q = 1 ∨ q = 2) ∧ s149 = .int .i64 q ∧ Below w32.heap.size w32 wr) (fun s149 _ => 2 - (intOf s149).toNat)
                        case atStart => exact ⟨0, .inl rfl, rfl, Below.refl _ _⟩
                        case round =>
                          obtain ⟨q, hq, rfl, hbw⟩ := hrel
                          have FS := Lib.hid (FS1.out.kept hbw)
                          have FT := Lib.hid (FT1.out.kept hbw)
                          have HA := Lib.hid (HA1.out.kept hbw)
                          have HL := Lib.hid (HL1.out.trans (hbw.mono HL1.out.size))
                          have HBw := Lib.hid hbw
                          have cHA := HA.out.cell
                          have lHA := HA.out.lt
                          have hsr := hbw.size
                          clear hbw
                          rcases hq with rfl | rfl | rfl
                          · have hix := (pair_at (.slice A5 L.length c5) (.slice A14 L2.length c14) wr).1
                            rename World => wo
                            go_wp2_with fail
                            go_loopw [154] (fun s154 wq => ∃ i : Nat, i ≤ L.length ∧ s154 = .int .i64 (i : Int) ∧ Below wo.heap.size wo wq) (fun s154 _ => L.length - (intOf s154).toNat)
                            case atStart => exact ⟨0, by omega, rfl, Below.refl _ _⟩
                            case round =>
                              rename World => wq
                              clear hix
                              obtain ⟨i, hi, rfl, hbq⟩ := hrel
                              have HBq := Lib.hid hbq
                              have hsq := hbq.size
                              have HAq := HA.out.kept hbq
                              have hLq := HL.out.trans (hbq.mono HL.out.size)
                              have hslq := hLq.size
                              clear cHA lHA
                              have cA := HAq.cell
                              have lA := HAq.lt
                              by_cases hlt : i < L.length
                              · obtain ⟨_, hat⟩ := int_at (FS.out.kept hbq).out
                                obtain ⟨bs, os, es', hbs, z0⟩ := hat i hlt
                                obtain ⟨j, hj, ej, hby⟩ := HEl.out L[i] (List.getElem_mem hlt)
                                rw [ej] at z0
                                obtain ⟨_, hatM⟩ := md_at (HMs.out.below hLq)
                                obtain ⟨bm, om, em, hbm, x0, x1, x2, x3⟩ := hatM j hj
                                rw [hby] at x3
                                have hjn : j < n := by rw [HEn.out.2.2.2] at hj; exact hj
                                have hbmq : bm < wq.heap.size := by omega
                                clear hat hatM x0 x1 x2 ej hby hbq hLq HAq
                                subst es'
                                subst em
                                go_wp2_with fail
                                go_roundw
                                case rel => exact ⟨i + 1, by omega, by go_num, HBq.out⟩
                                case measure => simp [intOf]; omega
                              · obtain rfl : i = L.length := by omega
                                have HBz := Lib.hid (HBw.out.trans (hbq.mono hsr))
                                clear hbq hLq HAq
                                go_wp2_with fail
                                go_roundw
                                case rel => exact ⟨1, by simp, by go_num, HBz.out⟩
                                case measure => simp [intOf]
                          · have hix := (pair_at (.slice A5 L.length c5) (.slice A14 L2.length c14) wr).2
                            rename World => wo
                            go_wp2_with fail
                            go_loopw [154] (fun s154 wq => ∃ i : Nat, i ≤ L2.length ∧ s154 = .int .i64 (i : Int) ∧ Below wo.heap.size wo wq) (fun s154 _ => L2.length - (intOf s154).toNat)
                            case atStart => exact ⟨0, by omega, rfl, Below.refl _ _⟩
                            case round =>
                              rename World => wq
                              clear hix
                              obtain ⟨i, hi, rfl, hbq⟩ := hrel
                              have HBq := Lib.hid hbq
                              have hsq := hbq.size
                              have HAq := HA.out.kept hbq
                              have hLq := HL.out.trans (hbq.mono HL.out.size)
                              have hslq := hLq.size
                              clear cHA lHA
                              have cA := HAq.cell
                              have lA := HAq.lt
                              by_cases hlt : i < L2.length
                              · obtain ⟨_, hat⟩ := int_at (FT.out.kept hbq).out
                                obtain ⟨bs, os, es', hbs, z0⟩ := hat i hlt
                                obtain ⟨j, hj, ej, hby⟩ := HEl2.out L2[i] (List.getElem_mem hlt)
                                rw [ej] at z0
                                obtain ⟨_, hatM⟩ := md_at (HMs.out.below hLq)
                                obtain ⟨bm, om, em, hbm, x0, x1, x2, x3⟩ := hatM j hj
                                rw [hby] at x3
                                have hjn : j < n := by rw [HEn.out.2.2.2] at hj; exact hj
                                have hbmq : bm < wq.heap.size := by omega
                                clear hat hatM x0 x1 x2 ej hby hbq hLq HAq
                                subst es'
                                subst em
                                go_wp2_with fail
                                go_roundw
                                case rel => exact ⟨i + 1, by omega, by go_num, HBq.out⟩
                                case measure => simp [intOf]; omega
                              · obtain rfl : i = L2.length := by omega
                                have HBz := Lib.hid (HBw.out.trans (hbq.mono hsr))
                                clear hbq hLq HAq
                                go_wp2_with fail
                                go_roundw
                                case rel => exact ⟨2, by simp, by go_num, HBz.out⟩
                                case measure => simp [intOf]
                          · go_wp2_with fail
                            go_meet
                            case rel => exact HBw.out
                    rename World => w33
                    have hb := hcut
                    clear hcut
                    clear cHA lHA cHO lHO
                    have hs33 := hb.size
                    have HL' := Lib.hid (HL.out.trans (hb.mono HL.out.size)); clear HL; have HL := HL'; clear HL'
                    have HA' := Lib.hid (HA.out.kept hb); clear HA; have HA := HA'; clear HA'
                    have HO' := Lib.hid (HO.out.kept hb); clear HO; have HO := HO'; clear HO'
                    have FS' := Lib.hid (FS.out.kept hb); clear FS; have FS := FS'; clear FS'
                    have FT' := Lib.hid (FT.out.kept hb); clear FT; have FT := FT'; clear FT'
                    clear hb
                    have cHA := HA.out.cell
                    have lHA := HA.out.lt
                    have cHO := HO.out.cell
                    have lHO := HO.out.lt
                    go_upto_block 4 with fail
                    go_cut [] (fun wx => Below w33.heap.size w33 wx)
                    case first =>
                      as_aux_lemma =>
                        have FT1 := FT; have HA1 := HA; have HL1 := HL; have HO1 := HO
                        clear FS FT HA HL cHA lHA HO cHO lHO
                        go_wp2_with fail
                        go_loopw [180] (fun s180 wr => ∃ i : Nat, i ≤ n ∧ s180 = .int .i64 (i : Int) ∧ Below w33.heap.size w33 wr) (fun s180 _ => n - (intOf s180).toNat)
                        case atStart => exact ⟨0, by omega, rfl, Below.refl _ _⟩
                        case round =>
                          rename World => wo
                          obtain ⟨i, hi, rfl, hbw⟩ := hrel
                          have HBw := Lib.hid hbw
                          have FT := Lib.hid (FT1.out.kept hbw)
                          have HA := Lib.hid (HA1.out.kept hbw)
                          have HO := Lib.hid (HO1.out.kept hbw)
                          have HL := Lib.hid (HL1.out.trans (hbw.mono HL1.out.size))
                          have cHA := HA.out.cell
                          have lHA := HA.out.lt
                          have hsr := hbw.size
                          have hslo := HL.out.size
                          clear hbw
                          by_cases hlt : i < n
                          · have hil : i < a.m.length := by rw [HEn.out.2.2.2]; exact hlt
                            obtain ⟨_, hatM⟩ := md_at (HMs.out.below HL.out)
                            obtain ⟨bm, om, em, hbm, x0, x1, x2, x3⟩ := hatM i hil
                            have HBi : Hid ((a.m[i]).by_ = false → hasI L2 (i : Int) = false → ∀ j, (hj : j < a.m.length) → (j : Int) ∈ L2 → strictB (a.m[i]).q (a.m[j]).q o.c = false) := Lib.hid (fun h1 h2 j hj hm => HBs.out i j hil hj h1 h2 hm)
                            clear hatM
                            generalize a.m[i] = x at *
                            obtain ⟨xn, xq, xo, xb⟩ := x
                            dsimp only at x0 x1 x2 x3 HBi
                            clear hil
                            have hbmo : bm < wo.heap.size := by omega
                            obtain ⟨hh, hhe⟩ : ∃ hh, hasI L2 (i : Int) = hh := ⟨_, rfl⟩
                            have HHe := Lib.hid hhe
                            rw [hhe] at HBi
                            clear hhe
                            subst em
                            go_upto_block 6 with fail
                            refine wp_world ?_
                            intro W0 hW0
                            have hb0 : Below wo.heap.size wo W0 := by rw [hW0]; exact bl_
                            have bX0 : Blk W0 wo.heap.size 74 #[.string xn, .int .i64 xq, .bool xo, .bool xb] := by rw [hW0]; exact bk_
                            have HB0 := Lib.hid hb0
                            have hs0 := hb0.size
                            clear hW0 hb0 x0 x1 x2 x3 cHA lHA
                            go_wp2_with fail
                            go_loopw [187] (fun s187 wr => ∃ k : Nat, k ≤ L2.length ∧ s187 = .int .i64 (k : Int) ∧ Below W0.heap.size W0 wr) (fun s187 _ => L2.length - (intOf s187).toNat)
                            case atStart => exact ⟨0, by omega, rfl, Below.refl _ _⟩
                            case round =>
                              rename World => wq
                              obtain ⟨k, hk, rfl, hbq⟩ := hrel
                              have hbq0 := HB0.out.trans (hbq.mono hs0)
                              have HBq := Lib.hid hbq
                              have hsq := hbq0.size
                              have bA := HA.out.kept hbq0
                              have bO := HO.out.kept hbq0
                              have bX := bX0.kept hbq
                              have hLq := HL.out.trans (hbq0.mono hslo)
                              have hslq := hLq.size
                              by_cases hkl : k < L2.length
                              · obtain ⟨_, hat⟩ := int_at (FT.out.kept hbq0).out
                                obtain ⟨bs, os, es', hbs, z0⟩ := hat k hkl
                                obtain ⟨j, hj, ej, hbyj⟩ := HEl2.out L2[k] (List.getElem_mem hkl)
                                have hjm : (j : Int) ∈ L2 := by rw [← ej]; exact List.getElem_mem hkl
                                rw [ej] at z0
                                obtain ⟨_, hatM⟩ := md_at (HMs.out.below hLq)
                                obtain ⟨bn, on, en, hbn, y0, y1, y2, y3⟩ := hatM j hj
                                clear y0 y2 y3 hbyj
                                have HSt := Lib.hid (fun h1 h2 => HBi.out h1 h2 j hj hjm)
                                have HHi := Lib.hid (fun W' (hW : Below wq.heap.size wq W') => HasInt_any wq.heap.size A14 L2.length c14 L2 (i : Int) W' ((FT.out.kept hbq0).out.below hW) (by unfold maxLen; omega))
                                rw [HHe.out] at HHi
                                have hjn : j < n := by rw [HEn.out.2.2.2] at hj; exact hj
                                have hbnq : bn < wq.heap.size := by omega
                                have HY := Lib.hid y1
                                clear hat hatM ej hjm hbq hbq0 hLq y1
                                generalize (a.m[j]).q = yq at *
                                have y1 := HY.out
                                clear HY hj
                                subst es'
                                cases en
                                have cA := bA.cell
                                have lA := bA.lt
                                have cO := bO.cell
                                have lO := bO.lt
                                have cX := bX.cell
                                have lX := bX.lt
                                cases xb with
                                | true =>
                                  go_wp2_with fail
                                  (refine wp_region_calm [] [0, 1, 2, 3, 4, 5, 6, 7, 8, 9, 10, 11, 12, 13, 14, 15, 16, 17, 18, 19, 20, 21] 0 (by kernel_rfl) rfl (by kernel_rfl) (by kernel_rfl) (by kernel_rfl) ?_; simp only [pickB, List.filterMap_cons, List.filterMap_nil, List.getElem?_toArray, List.getElem?_cons_zero, List.getElem?_cons_succ]; (repeat (first | ((first | (with_reducible refine quietL_plain rfl (fun K hK => ?_)) | (with_reducible refine quietL_want (by with_unfolding_all rfl) (fun K hK => ?_))); (apply Exists.intro; refine ⟨fun wx hx => ?_, ?_⟩; (· (have hcx := ifs_ex hx); simp [go_sem, *, ↓IntWalk.iteOmega] <;> (first | rfl | exact ⟨rfl, rfl⟩ | fail)); (simp only [Act.put, List.setIfInBounds_toArray, List.set_cons_zero, List.set_cons_succ]; refine hK _ ?_; clear hK K))) | ((with_reducible refine quietL_skip (by with_unfolding_all rfl) ?_); simp only [Act.put, List.setIfInBounds_toArray, List.set_cons_zero, List.set_cons_succ]))); refine quietL_nil ?_)
                                  (refine anyB_end (by kernel_rfl) ?_; intro w99 hb99; have hs99 := hb99.size; (try simp at hs99); simp only [Calm])
                                  have HBe := Lib.hid (HBq.out.trans (hb99.mono HBq.out.size))
                                  clear hb99 cA lA cO lO cX lX bA bO bX
                                  go_wp2_with fail
                                  go_roundw
                                  case rel => exact ⟨k + 1, by omega, by go_num, HBe.out⟩
                                  case measure => simp [intOf]; omega
                                | false =>
                                  cases hh with
                                  | true =>
                                    go_wp2_with fail
                                    (refine wp_region_calm [] [0, 1, 2, 3, 4, 5, 6, 7, 8, 9, 10, 11, 12, 13, 14, 15, 16, 17, 18, 19, 20, 21] 0 (by kernel_rfl) rfl (by kernel_rfl) (by kernel_rfl) (by kernel_rfl) ?_; simp only [pickB, List.filterMap_cons, List.filterMap_nil, List.getElem?_toArray, List.getElem?_cons_zero, List.getElem?_cons_succ]; (repeat (first | ((first | (with_reducible refine quietL_plain rfl (fun K hK => ?_)) | (with_reducible refine quietL_want (by with_unfolding_all rfl) (fun K hK => ?_))); (apply Exists.intro; refine ⟨fun wx hx => ?_, ?_⟩; (· (have hcx := ifs_ex hx); simp [go_sem, *, ↓IntWalk.iteOmega] <;> (first | rfl | exact ⟨rfl, rfl⟩ | (with_reducible exact calls_B (calls_below (HHi.out _ (Ex.low hx)))))); (simp only [Act.put, List.setIfInBounds_toArray, List.set_cons_zero, List.set_cons_succ]; refine hK _ ?_; clear hK K))) | ((with_reducible refine quietL_skip (by with_unfolding_all rfl) ?_); simp only [Act.put, List.setIfInBounds_toArray, List.set_cons_zero, List.set_cons_succ]))); refine quietL_nil ?_)
                                    (refine anyB_end (by kernel_rfl) ?_; intro w99 hb99; have hs99 := hb99.size; (try simp at hs99); simp only [Calm])
                                    have HBe := Lib.hid (HBq.out.trans (hb99.mono HBq.out.size))
                                    clear hb99 cA lA cO lO cX lX bA bO bX
                                    go_wp2_with fail
                                    go_roundw
                                    case rel => exact ⟨k + 1, by omega, by go_num, HBe.out⟩
                                    case measure => simp [intOf]; omega
                                  | false =>
                                    have hst := HSt.out rfl rfl
                                    have HSy := Lib.hid (fun W => Strictly_any xq yq o.c W)
                                    rw [hst] at HSy
                                    clear hst
                                    go_wp2_with fail
                                    (refine wp_region_calm [] [0, 1, 2, 3, 4, 5, 6, 7, 8, 9, 10, 11, 12, 13, 14, 15, 16, 17, 18, 19, 20, 21] 0 (by kernel_rfl) rfl (by kernel_rfl) (by kernel_rfl) (by kernel_rfl) ?_; simp only [pickB, List.filterMap_cons, List.filterMap_nil, List.getElem?_toArray, List.getElem?_cons_zero, List.getElem?_cons_succ]; (repeat (first | ((first | (with_reducible refine quietL_plain rfl (fun K hK => ?_)) | (with_reducible refine quietL_want (by with_unfolding_all rfl) (fun K hK => ?_))); (apply Exists.intro; refine ⟨fun wx hx => ?_, ?_⟩; (· (have hcx := ifs_ex hx); simp [go_sem, *, ↓IntWalk.iteOmega] <;> (first | rfl | exact ⟨rfl, rfl⟩ | (first | (with_reducible exact calls_B (calls_below (HHi.out _ (Ex.low hx)))) | (with_reducible exact calls_B (calls_below (HSy.out _)))))); (simp only [Act.put, List.setIfInBounds_toArray, List.set_cons_zero, List.set_cons_succ]; refine hK _ ?_; clear hK K))) | ((with_reducible refine quietL_skip (by with_unfolding_all rfl) ?_); simp only [Act.put, List.setIfInBounds_toArray, List.set_cons_zero, List.set_cons_succ]))); refine quietL_nil ?_)
                                    (refine anyB_end (by kernel_rfl) ?_; intro w99 hb99; have hs99 := hb99.size; (try simp at hs99); simp only [Calm])
                                    have HBe := Lib.hid (HBq.out.trans (hb99.mono HBq.out.size))
                                    clear hb99 cA lA cO lO cX lX bA bO bX
                                    go_wp2_with fail
                                    go_roundw
                                    case rel => exact ⟨k + 1, by omega, by go_num, HBe.out⟩
                                    case measure => simp [intOf]; omega
                              · obtain rfl : k = L2.length := by omega
                                have HBz := Lib.hid (HBw.out.trans (hbq0.mono hsr))
                                clear hbq hbq0 bA bO bX hLq
                                go_wp2_with fail
                                go_roundw
                                case rel => exact ⟨i + 1, by omega, by go_num, HBz.out⟩
                                case measure => simp [intOf]; omega
                          · obtain rfl : i = n := by omega
                            go_wp2_with fail
                            go_meet
                            case rel => exact HBw.out
                    rename World => w34
                    have hb := hcut
                    clear hcut
                    clear cHA lHA cHO lHO
                    have hs34 := hb.size
                    have HL' := Lib.hid (HL.out.trans (hb.mono HL.out.size)); clear HL; have HL := HL'; clear HL'
                    have HA' := Lib.hid (HA.out.kept hb); clear HA; have HA := HA'; clear HA'
                    have HO' := Lib.hid (HO.out.kept hb); clear HO; have HO := HO'; clear HO'
                    have FS' := Lib.hid (FS.out.kept hb); clear FS; have FS := FS'; clear FS'
                    have FT' := Lib.hid (FT.out.kept hb); clear FT; have FT := FT'; clear FT'
                    clear hb
                    have cHA := HA.out.cell
                    have lHA := HA.out.lt
                    have cHO := HO.out.cell
                    have lHO := HO.out.lt
                    have h30 : es = 30 := by rw [← HEs.out]; exact stp_30 HEr.out (by rw [HEs.out]; exact h3)
                    subst h30
                    go_wp2_with fail
                    go_ret
                    exact ⟨rfl, HL.out⟩
      · skip
        as_aux_lemma =>
          subst h3
          have hern : (es != 0) = true := by simpa using h0
          have hss : (es != es) = false := by simp
          have H0 := Lib.hid h0
          clear h0
          have HS0 := Lib.hid (fun W A c hm hc => (HSt.out W A c hm hc).mono (fun e w' (h : _ ∧ _) => show e = .returned (.tuple #[.agg #[.slice none 0 0, .int .i64 0, .int .i64 0, .int .i64 0, .int .i64 0], .int .i64 es]) ∧ Below W.heap.size W w' from by
            obtain ⟨hb, ⟨h1, _⟩ | ⟨_, h1⟩⟩ := h
            · exact absurd h1 H0.out
            · exact ⟨h1, hb⟩))
          clear HSt
          go_enter Tryz.func7, Tryz.ntmps7
          go_wp2_with fail
          refine (HAw.out _ bl_).mono ?_
          rintro e w1 ⟨rfl, hb⟩
          have HA : Hid (Blk w1 w.heap.size 26 #[.slice A n c, .int .i64 a.lo, .int .i64 a.hi, .int .i64 a.cur, .int .i64 a.lim]) := Lib.hid bk_
          have HO : Hid (Blk w1 (w.heap.size + 1) 68 #[.int .i64 o.n, .int .i64 o.c]) := Lib.hid bk_
          have HL : Hid (Below w.heap.size w w1) := Lib.hid bl_
          have hs1 := HL.out.size
          clear hb
          have cHA := HA.out.cell
          have lHA := HA.out.lt
          have cHO := HO.out.cell
          have lHO := HO.out.lt
          go_wp2_with fail
          refine (HVa.out _ HL.out).mono ?_
          rintro e w2 ⟨rfl, hb⟩
          clear cHA lHA cHO lHO
          have hs2 := hb.size
          have HL' := Lib.hid (HL.out.trans (hb.mono HL.out.size)); clear HL; have HL := HL'; clear HL'
          have HA' := Lib.hid (HA.out.kept hb); clear HA; have HA := HA'; clear HA'
          have HO' := Lib.hid (HO.out.kept hb); clear HO; have HO := HO'; clear HO'
          clear hb
          have cHA := HA.out.cell
          have lHA := HA.out.lt
          have cHO := HO.out.cell
          have lHO := HO.out.lt
          go_wp2_with fail
          refine (HCo.out _).mono ?_
          rintro e w3 ⟨rfl, hb⟩
          clear cHA lHA cHO lHO
          have hs3 := hb.size
          have HL' := Lib.hid (HL.out.trans (hb.mono HL.out.size)); clear HL; have HL := HL'; clear HL'
          have HA' := Lib.hid (HA.out.kept hb); clear HA; have HA := HA'; clear HA'
          have HO' := Lib.hid (HO.out.kept hb); clear HO; have HO := HO'; clear HO'
          clear hb
          have cHA := HA.out.cell
          have lHA := HA.out.lt
          have cHO := HO.out.cell
          have lHO := HO.out.lt
          go_wp2_with fail
          (refine wp_region_calm [] [0, 2] 7 (by kernel_rfl) rfl (by kernel_rfl) (by kernel_rfl) (by kernel_rfl) ?_; simp only [pickB, List.filterMap_cons, List.filterMap_nil, List.getElem?_toArray, List.getElem?_cons_zero, List.getElem?_cons_succ]; (repeat (first | ((first | (with_reducible refine quietL_plain rfl (fun K hK => ?_)) | (with_reducible refine quietL_want (by with_unfolding_all rfl) (fun K hK => ?_))); (apply Exists.intro; refine ⟨fun wx hx => ?_, ?_⟩; (· (have hcx := ifs_ex hx); simp [go_sem, *, ↓IntWalk.iteOmega] <;> (first | rfl | exact ⟨rfl, rfl⟩ | fail)); (simp only [Act.put, List.setIfInBounds_toArray, List.set_cons_zero, List.set_cons_succ]; refine hK _ ?_; clear hK K))) | ((with_reducible refine quietL_skip (by with_unfolding_all rfl) ?_); simp only [Act.put, List.setIfInBounds_toArray, List.set_cons_zero, List.set_cons_succ]))); refine quietL_nil ?_)
          (refine anyB_one (i := 1) (by kernel_rfl) rfl rfl ?_; intro w4 hb4 K hK; have hs4 := hb4.size; (try simp at hs4); go_wp2_with fail)
          refine (HOw.out _ (HL.out.trans (hb4.mono HL.out.size))).mono ?_
          rintro e w5 ⟨Ao, co, rfl, hm, hc, hb5⟩
          have hs5 := hb5.size
          have HMo := Lib.hid hm; have HKo := Lib.hid hc; clear hm hc
          (go_wp2; refine ⟨xs_, ?_⟩)
          (refine anyB_one (i := 3) (by kernel_rfl) rfl rfl ?_; intro w6 hb6 K hK; have hs6 := hb6.size; (try simp at hs6); go_wp2_with fail)
          refine (HCh.out _ _ _ (ms_kept HMo.out hb6) HKo.out).mono ?_
          rintro e w7 ⟨v5, rfl, hr, _, hb7⟩
          have hs7 := hb7.size
          obtain ⟨A5, c5, rfl, _, _, hrd⟩ := own_form hr
          have HRd := Lib.hid hrd
          clear hr hrd HMo HKo
          (go_wp2; refine ⟨xs_, ?_⟩)
          (refine anyB_quiet_at (by kernel_rfl) calm_panic xs_ 2 [4, 5, 6] _ _ (by kernel_rfl) (by decide +kernel) ?_; simp only [pickB, List.filterMap_cons, List.filterMap_nil, List.getElem?_toArray, List.getElem?_cons_zero, List.getElem?_cons_succ]; (repeat (first | ((first | (with_reducible refine quietL_plain rfl (fun K hK => ?_)) | (with_reducible refine quietL_want (by with_unfolding_all rfl) (fun K hK => ?_))); (apply Exists.intro; refine ⟨fun wx hx => ?_, ?_⟩; (· (have hcx := ifs_ex hx); simp [go_sem, *, ↓IntWalk.iteOmega] <;> (first | rfl | exact ⟨rfl, rfl⟩ | fail)); (simp only [Act.put, List.setIfInBounds_toArray, List.set_cons_zero, List.set_cons_succ]; refine hK _ ?_; clear hK K))) | ((with_reducible refine quietL_skip (by with_unfolding_all rfl) ?_); simp only [Act.put, List.setIfInBounds_toArray, List.set_cons_zero, List.set_cons_succ]))); refine quietL_nil ?_)
          (refine anyB_one (i := 7) (by kernel_rfl) rfl rfl ?_; intro w8 hb8 K hK; have hs8 := hb8.size; (try simp at hs8); go_wp2; refine ⟨xs_, ?_⟩)
          (refine anyB_one (i := 8) (by kernel_rfl) rfl rfl ?_; intro w9 hb9 K hK; have hs9 := hb9.size; (try simp at hs9); go_wp2; refine ⟨xs_, ?_⟩)
          (refine anyB_end (by kernel_rfl) ?_; intro w10 hb10; have hs10 := hb10.size; (try simp at hs10); simp only [Calm])
          have FS := Lib.hid ((((⟨HRd.out⟩ : RdI w7 A5 _ _).kept hb8).kept hb9).kept hb10)
          clear HRd
          have hb := hb4.trans ((hb5.trans ((hb6.trans ((hb7.trans ((hb8.trans ((hb9.trans ((hb10).mono hs9)).mono hs8)).mono hs7)).mono hs6)).mono hs5)).mono hs4)
          clear hb4 hb5 hb6 hb7 hb8 hb9 hb10 hs4 hs5 hs6 hs7 hs8 hs9 hs10
          clear cHA lHA cHO lHO
          have hs10 := hb.size
          have HL' := Lib.hid (HL.out.trans (hb.mono HL.out.size)); clear HL; have HL := HL'; clear HL'
          have HA' := Lib.hid (HA.out.kept hb); clear HA; have HA := HA'; clear HA'
          have HO' := Lib.hid (HO.out.kept hb); clear HO; have HO := HO'; clear HO'
          clear hb
          have cHA := HA.out.cell
          have lHA := HA.out.lt
          have cHO := HO.out.cell
          have lHO := HO.out.lt
          as_aux_lemma =>
            go_wp2_with fail
            go_cut [7, 8] (fun s7 s8 wx => ∃ b7 : Nat, s7 = .pointer (some ⟨b7, 0, none⟩) ∧ s8 = .int .i64 es ∧ Below w10.heap.size w10 wx)
            case first =>
              as_aux_lemma =>
                have HP := Lib.hid (Below.refl w10.heap.size w10)
                (refine wp_region_calm [] [0, 2] 8 (by kernel_rfl) rfl (by kernel_rfl) (by kernel_rfl) (by kernel_rfl) ?_; simp only [pickB, List.filterMap_cons, List.filterMap_nil, List.getElem?_toArray, List.getElem?_cons_zero, List.getElem?_cons_succ]; (repeat (first | ((first | (with_reducible refine quietL_plain rfl (fun K hK => ?_)) | (with_reducible refine quietL_want (by with_unfolding_all rfl) (fun K hK => ?_))); (apply Exists.intro; refine ⟨fun wx hx => ?_, ?_⟩; (· (have hcx := ifs_ex hx); simp [go_sem, *, ↓IntWalk.iteOmega] <;> (first | rfl | exact ⟨rfl, rfl⟩ | skip)); (simp only [Act.put, List.setIfInBounds_toArray, List.set_cons_zero, List.set_cons_succ]; refine hK _ ?_; clear hK K))) | ((with_reducible refine quietL_skip (by with_unfolding_all rfl) ?_); simp only [Act.put, List.setIfInBounds_toArray, List.set_cons_zero, List.set_cons_succ]))); refine quietL_nil ?_)
                refine anyB_two (i := 1) (j := 7) (by kernel_rfl) rfl rfl rfl rfl ?_ ?_
                · skip
                  intro wc hbc K hK
                  have hsc := hbc.size
                  (try simp at hsc)
                  replace HP := Lib.hid (HP.out.trans (hbc.mono HP.out.size))
                  (try replace BB := Lib.hid (BB.out.kept hbc))
                  (try replace HMo := Lib.hid (ms_kept HMo.out hbc))
                  go_wp2_with fail
                  refine (HOw.out _ (HL.out.trans (HP.out.mono HL.out.size))).mono ?_
                  rintro e wd ⟨Ao, co, rfl, hm, hc, hbd⟩
                  have hsd := hbd.size
                  have HMo := Lib.hid hm; have HCo2 := Lib.hid hc; clear hm hc
                  replace HP := Lib.hid (HP.out.trans (hbd.mono HP.out.size))
                  (try replace BB := Lib.hid (BB.out.kept hbd))
                  go_wp2
                  refine ⟨xs_, ?_⟩
                  refine anyB_two (i := 3) (j := 7) (by kernel_rfl) rfl rfl rfl rfl ?_ ?_
                  · skip
                    intro we hbe K hK
                    have hse := hbe.size
                    (try simp at hse)
                    replace HP := Lib.hid (HP.out.trans (hbe.mono HP.out.size))
                    (try replace BB := Lib.hid (BB.out.kept hbe))
                    (try replace HMo := Lib.hid (ms_kept HMo.out hbe))
                    go_wp2_with fail
                    refine (HS0.out _ _ _ HMo.out HCo2.out).mono ?_
                    rintro e wf ⟨rfl, hbf⟩
                    have hsf := hbf.size
                    clear HMo HCo2
                    replace HP := Lib.hid (HP.out.trans (hbf.mono HP.out.size))
                    (try replace BB := Lib.hid (BB.out.kept hbf))
                    go_wp2
                    refine ⟨xs_, ?_⟩
                    (refine anyB_quiet_at (by kernel_rfl) calm_panic xs_ 3 [4, 5, 6] _ _ (by kernel_rfl) (by decide +kernel) ?_; simp only [pickB, List.filterMap_cons, List.filterMap_nil, List.getElem?_toArray, List.getElem?_cons_zero, List.getElem?_cons_succ]; (repeat (first | ((first | (with_reducible refine quietL_plain rfl (fun K hK => ?_)) | (with_reducible refine quietL_want (by with_unfolding_all rfl) (fun K hK => ?_))); (apply Exists.intro; refine ⟨fun wx hx => ?_, ?_⟩; (· (have hcx := ifs_ex hx); simp [go_sem, *, ↓IntWalk.iteOmega] <;> (first | rfl | exact ⟨rfl, rfl⟩ | fail)); (simp only [Act.put, List.setIfInBounds_toArray, List.set_cons_zero, List.set_cons_succ]; refine hK _ ?_; clear hK K))) | ((with_reducible refine quietL_skip (by with_unfolding_all rfl) ?_); simp only [Act.put, List.setIfInBounds_toArray, List.set_cons_zero, List.set_cons_succ]))); refine quietL_nil ?_)
                    refine anyB_one (i := 7) (by kernel_rfl) rfl rfl ?_
                    intro wh hbh K hK
                    have hsh := hbh.size
                    (try simp at hsh)
                    replace HP := Lib.hid (HP.out.trans (hbh.mono HP.out.size))
                    (try replace HMo := Lib.hid (ms_kept HMo.out hbh))
                    (try replace HG := Lib.hid (HG.out.kept hbh))
                    have hbx : Below wh.heap.size wh (wh.alloc (.cells #[.slice none 0 0, .int .i64 0, .int .i64 0, .int .i64 0, .int .i64 0] 35)) := (Below.refl _ _).alloc (Nat.le_refl _) _
                    replace HP := Lib.hid (HP.out.trans (hbx.mono HP.out.size))
                    (try replace HMo := Lib.hid (ms_kept HMo.out hbx))
                    (try replace HG := Lib.hid (HG.out.kept hbx))
                    have BB := Lib.hid (Blk.new wh 35 #[.slice none 0 0, .int .i64 0, .int .i64 0, .int .i64 0, .int .i64 0])
                    have hwh := HP.out.size
                    clear hbx
                    go_wp2
                    refine ⟨xs_, ?_⟩
                    refine anyB_one (i := 8) (by kernel_rfl) rfl rfl ?_
                    intro wi hbi K hK
                    have hsi := hbi.size
                    (try simp at hsi)
                    replace HP := Lib.hid (HP.out.trans (hbi.mono HP.out.size))
                    replace BB := Lib.hid (BB.out.kept hbi)
                    (try replace HG := Lib.hid (HG.out.kept hbi))
                    have cB := BB.out.cell
                    have fB := BB.out.frozen
                    have lB := BB.out.lt
                    go_wp2
                    refine ⟨xs_, ?_⟩
                    have BC := Lib.hid (put5_blk (v0 := .slice none 0 0) (v1 := .int .i64 0) (v2 := .int .i64 0) (v3 := .int .i64 0) (v4 := .int .i64 0) BB.out)
                    have HPc := Lib.hid (put5_low (b := wh.heap.size) (v0 := .slice none 0 0) (v1 := .int .i64 0) (v2 := .int .i64 0) (v3 := .int .i64 0) (v4 := .int .i64 0) HP.out (by omega))
                    (try have HGc := Lib.hid (put5_far (b := wh.heap.size) (v0 := .slice none 0 0) (v1 := .int .i64 0) (v2 := .int .i64 0) (v3 := .int .i64 0) (v4 := .int .i64 0) HG.out (blk_ne HG.out BB.out (by decide))))
                    clear cB fB lB HP BB
                    refine anyB_one (i := 9) (by kernel_rfl) rfl rfl ?_
                    intro wj hbj K hK
                    have hsj := hbj.size
                    (try simp at hsj)
                    go_wp2
                    refine ⟨xs_, ?_⟩
                    refine anyB_end (by kernel_rfl) ?_
                    intro wk hbk
                    have hsk := hbk.size
                    simp only [Calm]
                    have BE := Lib.hid ((BC.out.kept hbj).kept hbk)
                    have HPe := Lib.hid ((HPc.out.trans (hbj.mono HPc.out.size)).trans (hbk.mono (by have := HPc.out.size; omega)))
                    (try have HGe := Lib.hid ((HGc.out.kept hbj).kept hbk))
                    go_wp2_with fail
                    go_meet
                    case rel => exact ⟨wh.heap.size, rfl, rfl, HPe.out⟩
                  · skip
                    intro wh hbh K hK
                    have hsh := hbh.size
                    (try simp at hsh)
                    replace HP := Lib.hid (HP.out.trans (hbh.mono HP.out.size))
                    (try replace HMo := Lib.hid (ms_kept HMo.out hbh))
                    (try replace HG := Lib.hid (HG.out.kept hbh))
                    have hbx : Below wh.heap.size wh (wh.alloc (.cells #[.slice none 0 0, .int .i64 0, .int .i64 0, .int .i64 0, .int .i64 0] 35)) := (Below.refl _ _).alloc (Nat.le_refl _) _
                    replace HP := Lib.hid (HP.out.trans (hbx.mono HP.out.size))
                    (try replace HMo := Lib.hid (ms_kept HMo.out hbx))
                    (try replace HG := Lib.hid (HG.out.kept hbx))
                    have BB := Lib.hid (Blk.new wh 35 #[.slice none 0 0, .int .i64 0, .int .i64 0, .int .i64 0, .int .i64 0])
                    have hwh := HP.out.size
                    clear hbx
                    go_wp2
                    refine ⟨xs_, ?_⟩
                    refine anyB_one (i := 3) (by kernel_rfl) rfl rfl ?_
                    intro we hbe K hK
                    have hse := hbe.size
                    (try simp at hse)
                    replace HP := Lib.hid (HP.out.trans (hbe.mono HP.out.size))
                    (try replace BB := Lib.hid (BB.out.kept hbe))
                    (try replace HMo := Lib.hid (ms_kept HMo.out hbe))
                    go_wp2_with fail
                    refine (HS0.out _ _ _ HMo.out HCo2.out).mono ?_
                    rintro e wf ⟨rfl, hbf⟩
                    have hsf := hbf.size
                    clear HMo HCo2
                    replace HP := Lib.hid (HP.out.trans (hbf.mono HP.out.size))
                    (try replace BB := Lib.hid (BB.out.kept hbf))
                    go_wp2
                    refine ⟨xs_, ?_⟩
                    (refine anyB_quiet_at (by kernel_rfl) calm_panic xs_ 2 [4, 5, 6] _ _ (by kernel_rfl) (by decide +kernel) ?_; simp only [pickB, List.filterMap_cons, List.filterMap_nil, List.getElem?_toArray, List.getElem?_cons_zero, List.getElem?_cons_succ]; (repeat (first | ((first | (with_reducible refine quietL_plain rfl (fun K hK => ?_)) | (with_reducible refine quietL_want (by with_unfolding_all rfl) (fun K hK => ?_))); (apply Exists.intro; refine ⟨fun wx hx => ?_, ?_⟩; (· (have hcx := ifs_ex hx); simp [go_sem, *, ↓IntWalk.iteOmega] <;> (first | rfl | exact ⟨rfl, rfl⟩ | fail)); (simp only [Act.put, List.setIfInBounds_toArray, List.set_cons_zero, List.set_cons_succ]; refine hK _ ?_; clear hK K))) | ((with_reducible refine quietL_skip (by with_unfolding_all rfl) ?_); simp only [Act.put, List.setIfInBounds_toArray, List.set_cons_zero, List.set_cons_succ]))); refine quietL_nil ?_)
                    refine anyB_one (i := 8) (by kernel_rfl) rfl rfl ?_
                    intro wi hbi K hK
                    have hsi := hbi.size
                    (try simp at hsi)
                    replace HP := Lib.hid (HP.out.trans (hbi.mono HP.out.size))
                    replace BB := Lib.hid (BB.out.kept hbi)
                    (try replace HG := Lib.hid (HG.out.kept hbi))
                    have cB := BB.out.cell
                    have fB := BB.out.frozen
                    have lB := BB.out.lt
                    go_wp2
                    refine ⟨xs_, ?_⟩
                    have BC := Lib.hid (put5_blk (v0 := .slice none 0 0) (v1 := .int .i64 0) (v2 := .int .i64 0) (v3 := .int .i64 0) (v4 := .int .i64 0) BB.out)
                    have HPc := Lib.hid (put5_low (b := wh.heap.size) (v0 := .slice none 0 0) (v1 := .int .i64 0) (v2 := .int .i64 0) (v3 := .int .i64 0) (v4 := .int .i64 0) HP.out (by omega))
                    (try have HGc := Lib.hid (put5_far (b := wh.heap.size) (v0 := .slice none 0 0) (v1 := .int .i64 0) (v2 := .int .i64 0) (v3 := .int .i64 0) (v4 := .int .i64 0) HG.out (blk_ne HG.out BB.out (by decide))))
                    clear cB fB lB HP BB
                    refine anyB_one (i := 9) (by kernel_rfl) rfl rfl ?_
                    intro wj hbj K hK
                    have hsj := hbj.size
                    (try simp at hsj)
                    go_wp2
                    refine ⟨xs_, ?_⟩
                    refine anyB_end (by kernel_rfl) ?_
                    intro wk hbk
                    have hsk := hbk.size
                    simp only [Calm]
                    have BE := Lib.hid ((BC.out.kept hbj).kept hbk)
                    have HPe := Lib.hid ((HPc.out.trans (hbj.mono HPc.out.size)).trans (hbk.mono (by have := HPc.out.size; omega)))
                    (try have HGe := Lib.hid ((HGc.out.kept hbj).kept hbk))
                    go_wp2_with fail
                    go_meet
                    case rel => exact ⟨wh.heap.size, rfl, rfl, HPe.out⟩
                · skip
                  intro wh hbh K hK
                  have hsh := hbh.size
                  (try simp at hsh)
                  replace HP := Lib.hid (HP.out.trans (hbh.mono HP.out.size))
                  (try replace HMo := Lib.hid (ms_kept HMo.out hbh))
                  (try replace HG := Lib.hid (HG.out.kept hbh))
                  have hbx : Below wh.heap.size wh (wh.alloc (.cells #[.slice none 0 0, .int .i64 0, .int .i64 0, .int .i64 0, .int .i64 0] 35)) := (Below.refl _ _).alloc (Nat.le_refl _) _
                  replace HP := Lib.hid (HP.out.trans (hbx.mono HP.out.size))
                  (try replace HMo := Lib.hid (ms_kept HMo.out hbx))
                  (try replace HG := Lib.hid (HG.out.kept hbx))
                  have BB := Lib.hid (Blk.new wh 35 #[.slice none 0 0, .int .i64 0, .int .i64 0, .int .i64 0, .int .i64 0])
                  have hwh := HP.out.size
                  clear hbx
                  go_wp2
                  refine ⟨xs_, ?_⟩
                  refine anyB_one (i := 1) (by kernel_rfl) rfl rfl ?_
                  intro wc hbc K hK
                  have hsc := hbc.size
                  (try simp at hsc)
                  replace HP := Lib.hid (HP.out.trans (hbc.mono HP.out.size))
                  (try replace BB := Lib.hid (BB.out.kept hbc))
                  (try replace HMo := Lib.hid (ms_kept HMo.out hbc))
                  go_wp2_with fail
                  refine (HOw.out _ (HL.out.trans (HP.out.mono HL.out.size))).mono ?_
                  rintro e wd ⟨Ao, co, rfl, hm, hc, hbd⟩
                  have hsd := hbd.size
                  have HMo := Lib.hid hm; have HCo2 := Lib.hid hc; clear hm hc
                  replace HP := Lib.hid (HP.out.trans (hbd.mono HP.out.size))
                  (try replace BB := Lib.hid (BB.out.kept hbd))
                  go_wp2
                  refine ⟨xs_, ?_⟩
                  refine anyB_one (i := 3) (by kernel_rfl) rfl rfl ?_
                  intro we hbe K hK
                  have hse := hbe.size
                  (try simp at hse)
                  replace HP := Lib.hid (HP.out.trans (hbe.mono HP.out.size))
                  (try replace BB := Lib.hid (BB.out.kept hbe))
                  (try replace HMo := Lib.hid (ms_kept HMo.out hbe))
                  go_wp2_with fail
                  refine (HS0.out _ _ _ HMo.out HCo2.out).mono ?_
                  rintro e wf ⟨rfl, hbf⟩
                  have hsf := hbf.size
                  clear HMo HCo2
                  replace HP := Lib.hid (HP.out.trans (hbf.mono HP.out.size))
                  (try replace BB := Lib.hid (BB.out.kept hbf))
                  go_wp2
                  refine ⟨xs_, ?_⟩
                  (refine anyB_quiet_at (by kernel_rfl) calm_panic xs_ 2 [4, 5, 6] _ _ (by kernel_rfl) (by decide +kernel) ?_; simp only [pickB, List.filterMap_cons, List.filterMap_nil, List.getElem?_toArray, List.getElem?_cons_zero, List.getElem?_cons_succ]; (repeat (first | ((first | (with_reducible refine quietL_plain rfl (fun K hK => ?_)) | (with_reducible refine quietL_want (by with_unfolding_all rfl) (fun K hK => ?_))); (apply Exists.intro; refine ⟨fun wx hx => ?_, ?_⟩; (· (have hcx := ifs_ex hx); simp [go_sem, *, ↓IntWalk.iteOmega] <;> (first | rfl | exact ⟨rfl, rfl⟩ | fail)); (simp only [Act.put, List.setIfInBounds_toArray, List.set_cons_zero, List.set_cons_succ]; refine hK _ ?_; clear hK K))) | ((with_reducible refine quietL_skip (by with_unfolding_all rfl) ?_); simp only [Act.put, List.setIfInBounds_toArray, List.set_cons_zero, List.set_cons_succ]))); refine quietL_nil ?_)
                  refine anyB_one (i := 8) (by kernel_rfl) rfl rfl ?_
                  intro wi hbi K hK
                  have hsi := hbi.size
                  (try simp at hsi)
                  replace HP := Lib.hid (HP.out.trans (hbi.mono HP.out.size))
                  replace BB := Lib.hid (BB.out.kept hbi)
                  (try replace HG := Lib.hid (HG.out.kept hbi))
                  have cB := BB.out.cell
                  have fB := BB.out.frozen
                  have lB := BB.out.lt
                  go_wp2
                  refine ⟨xs_, ?_⟩
                  have BC := Lib.hid (put5_blk (v0 := .slice none 0 0) (v1 := .int .i64 0) (v2 := .int .i64 0) (v3 := .int .i64 0) (v4 := .int .i64 0) BB.out)
                  have HPc := Lib.hid (put5_low (b := wh.heap.size) (v0 := .slice none 0 0) (v1 := .int .i64 0) (v2 := .int .i64 0) (v3 := .int .i64 0) (v4 := .int .i64 0) HP.out (by omega))
                  (try have HGc := Lib.hid (put5_far (b := wh.heap.size) (v0 := .slice none 0 0) (v1 := .int .i64 0) (v2 := .int .i64 0) (v3 := .int .i64 0) (v4 := .int .i64 0) HG.out (blk_ne HG.out BB.out (by decide))))
                  clear cB fB lB HP BB
                  refine anyB_one (i := 9) (by kernel_rfl) rfl rfl ?_
                  intro wj hbj K hK
                  have hsj := hbj.size
                  (try simp at hsj)
                  go_wp2
                  refine ⟨xs_, ?_⟩
                  refine anyB_end (by kernel_rfl) ?_
                  intro wk hbk
                  have hsk := hbk.size
                  simp only [Calm]
                  have BE := Lib.hid ((BC.out.kept hbj).kept hbk)
                  have HPe := Lib.hid ((HPc.out.trans (hbj.mono HPc.out.size)).trans (hbk.mono (by have := HPc.out.size; omega)))
                  (try have HGe := Lib.hid ((HGc.out.kept hbj).kept hbk))
                  go_wp2_with fail
                  go_meet
                  case rel => exact ⟨wh.heap.size, rfl, rfl, HPe.out⟩
            rename World => w11
            obtain ⟨b7, rfl, rfl, hb⟩ := hcut
            clear HS0
            clear cHA lHA cHO lHO
            have hs11 := hb.size
            have HL' := Lib.hid (HL.out.trans (hb.mono HL.out.size)); clear HL; have HL := HL'; clear HL'
            have HA' := Lib.hid (HA.out.kept hb); clear HA; have HA := HA'; clear HA'
            have HO' := Lib.hid (HO.out.kept hb); clear HO; have HO := HO'; clear HO'
            have FS' := Lib.hid (FS.out.kept hb); clear FS; have FS := FS'; clear FS'
            clear hb
            have cHA := HA.out.cell
            have lHA := HA.out.lt
            have cHO := HO.out.cell
            have lHO := HO.out.lt
            as_aux_lemma =>
              go_wp2_with fail
              (refine wp_region_calm [] [0, 2] 7 (by kernel_rfl) rfl (by kernel_rfl) (by kernel_rfl) (by kernel_rfl) ?_; simp only [pickB, List.filterMap_cons, List.filterMap_nil, List.getElem?_toArray, List.getElem?_cons_zero, List.getElem?_cons_succ]; (repeat (first | ((first | (with_reducible refine quietL_plain rfl (fun K hK => ?_)) | (with_reducible refine quietL_want (by with_unfolding_all rfl) (fun K hK => ?_))); (apply Exists.intro; refine ⟨fun wx hx => ?_, ?_⟩; (· (have hcx := ifs_ex hx); simp [go_sem, *, ↓IntWalk.iteOmega] <;> (first | rfl | exact ⟨rfl, rfl⟩ | fail)); (simp only [Act.put, List.setIfInBounds_toArray, List.set_cons_zero, List.set_cons_succ]; refine hK _ ?_; clear hK K))) | ((with_reducible refine quietL_skip (by with_unfolding_all rfl) ?_); simp only [Act.put, List.setIfInBounds_toArray, List.set_cons_zero, List.set_cons_succ]))); refine quietL_nil ?_)
              (refine anyB_one (i := 1) (by kernel_rfl) rfl rfl ?_; intro w12 hb12 K hK; have hs12 := hb12.size; (try simp at hs12); go_wp2_with fail)
              refine (HOw.out _ (HL.out.trans (hb12.mono HL.out.size))).mono ?_
              rintro e w13 ⟨Ao, co, rfl, hm, hc, hb13⟩
              have hs13 := hb13.size
              have HMo := Lib.hid hm; have HKo := Lib.hid hc; clear hm hc
              (go_wp2; refine ⟨xs_, ?_⟩)
              (refine anyB_one (i := 3) (by kernel_rfl) rfl rfl ?_; intro w14 hb14 K hK; have hs14 := hb14.size; (try simp at hs14); go_wp2_with fail)
              refine (HBo.out _ _ _ (ms_kept HMo.out hb14) HKo.out).mono ?_
              rintro e w15 ⟨rfl, hb15⟩
              have hs15 := hb15.size
              clear HMo HKo
              (go_wp2; refine ⟨xs_, ?_⟩)
              (refine anyB_quiet_at (by kernel_rfl) calm_panic xs_ 2 [4, 5, 6] _ _ (by kernel_rfl) (by decide +kernel) ?_; simp only [pickB, List.filterMap_cons, List.filterMap_nil, List.getElem?_toArray, List.getElem?_cons_zero, List.getElem?_cons_succ]; (repeat (first | ((first | (with_reducible refine quietL_plain rfl (fun K hK => ?_)) | (with_reducible refine quietL_want (by with_unfolding_all rfl) (fun K hK => ?_))); (apply Exists.intro; refine ⟨fun wx hx => ?_, ?_⟩; (· (have hcx := ifs_ex hx); simp [go_sem, *, ↓IntWalk.iteOmega] <;> (first | rfl | exact ⟨rfl, rfl⟩ | fail)); (simp only [Act.put, List.setIfInBounds_toArray, List.set_cons_zero, List.set_cons_succ]; refine hK _ ?_; clear hK K))) | ((with_reducible refine quietL_skip (by with_unfolding_all rfl) ?_); simp only [Act.put, List.setIfInBounds_toArray, List.set_cons_zero, List.set_cons_succ]))); refine quietL_nil ?_)
              (refine anyB_one (i := 7) (by kernel_rfl) rfl rfl ?_; intro w16 hb16 K hK; have hs16 := hb16.size; (try simp at hs16); go_wp2; refine ⟨xs_, ?_⟩)
              (refine anyB_one (i := 8) (by kernel_rfl) rfl rfl ?_; intro w17 hb17 K hK; have hs17 := hb17.size; (try simp at hs17); go_wp2; refine ⟨xs_, ?_⟩)
              (refine anyB_end (by kernel_rfl) ?_; intro w18 hb18; have hs18 := hb18.size; (try simp at hs18); simp only [Calm])
              have hb := hb12.trans ((hb13.trans ((hb14.trans ((hb15.trans ((hb16.trans ((hb17.trans ((hb18).mono hs17)).mono hs16)).mono hs15)).mono hs14)).mono hs13)).mono hs12)
              clear hb12 hb13 hb14 hb15 hb16 hb17 hb18 hs12 hs13 hs14 hs15 hs16 hs17 hs18
              clear cHA lHA cHO lHO
              have hs18 := hb.size
              have HL' := Lib.hid (HL.out.trans (hb.mono HL.out.size)); clear HL; have HL := HL'; clear HL'
              have HA' := Lib.hid (HA.out.kept hb); clear HA; have HA := HA'; clear HA'
              have HO' := Lib.hid (HO.out.kept hb); clear HO; have HO := HO'; clear HO'
              have FS' := Lib.hid (FS.out.kept hb); clear FS; have FS := FS'; clear FS'
              clear hb
              have cHA := HA.out.cell
              have lHA := HA.out.lt
              have cHO := HO.out.cell
              have lHO := HO.out.lt
              as_aux_lemma =>
                go_wp2_with fail
                refine (HOw.out _ HL.out).mono ?_
                rintro e w19 ⟨A19, c19, rfl, hm, hc, hb⟩
                have HM19 := Lib.hid hm; have HC19 := Lib.hid hc; clear hm hc
                clear cHA lHA cHO lHO
                have hs19 := hb.size
                have HL' := Lib.hid (HL.out.trans (hb.mono HL.out.size)); clear HL; have HL := HL'; clear HL'
                have HA' := Lib.hid (HA.out.kept hb); clear HA; have HA := HA'; clear HA'
                have HO' := Lib.hid (HO.out.kept hb); clear HO; have HO := HO'; clear HO'
                have FS' := Lib.hid (FS.out.kept hb); clear FS; have FS := FS'; clear FS'
                clear hb
                have cHA := HA.out.cell
                have lHA := HA.out.lt
                have cHO := HO.out.cell
                have lHO := HO.out.lt
                go_wp2_with fail
                refine (HIn.out _ _ _ _ _ FS.out.out (by omega)).mono ?_
                rintro e w20 ⟨A20, c20, rfl, hrd, hb⟩
                have HR20 := Lib.hid hrd; clear hrd; have HM192 := Lib.hid (ms_kept HM19.out hb); clear HM19
                clear cHA lHA cHO lHO
                have hs20 := hb.size
                have HL' := Lib.hid (HL.out.trans (hb.mono HL.out.size)); clear HL; have HL := HL'; clear HL'
                have HA' := Lib.hid (HA.out.kept hb); clear HA; have HA := HA'; clear HA'
                have HO' := Lib.hid (HO.out.kept hb); clear HO; have HO := HO'; clear HO'
                have FS' := Lib.hid (FS.out.kept hb); clear FS; have FS := FS'; clear FS'
                clear hb
                have cHA := HA.out.cell
                have lHA := HA.out.lt
                have cHO := HO.out.cell
                have lHO := HO.out.lt
                go_wp2_with fail
                refine (HCg.out _ _ _ _ _ _ HM192.out HC19.out HR20.out (by omega)).mono ?_
                rintro e w21 ⟨rfl, hb⟩
                clear HM192 HC19 HR20
                clear cHA lHA cHO lHO
                have hs21 := hb.size
                have HL' := Lib.hid (HL.out.trans (hb.mono HL.out.size)); clear HL; have HL := HL'; clear HL'
                have HA' := Lib.hid (HA.out.kept hb); clear HA; have HA := HA'; clear HA'
                have HO' := Lib.hid (HO.out.kept hb); clear HO; have HO := HO'; clear HO'
                have FS' := Lib.hid (FS.out.kept hb); clear FS; have FS := FS'; clear FS'
                clear hb
                have cHA := HA.out.cell
                have lHA := HA.out.lt
                have cHO := HO.out.cell
                have lHO := HO.out.lt
                go_wp2_with fail
                refine (HOw.out _ HL.out).mono ?_
                rintro e w22 ⟨A22, c22, rfl, hm, hc, hb⟩
                have HM22 := Lib.hid hm; have HC22 := Lib.hid hc; clear hm hc
                clear cHA lHA cHO lHO
                have hs22 := hb.size
                have HL' := Lib.hid (HL.out.trans (hb.mono HL.out.size)); clear HL; have HL := HL'; clear HL'
                have HA' := Lib.hid (HA.out.kept hb); clear HA; have HA := HA'; clear HA'
                have HO' := Lib.hid (HO.out.kept hb); clear HO; have HO := HO'; clear HO'
                have FS' := Lib.hid (FS.out.kept hb); clear FS; have FS := FS'; clear FS'
                clear hb
                have cHA := HA.out.cell
                have lHA := HA.out.lt
                have cHO := HO.out.cell
                have lHO := HO.out.lt
                go_upto_region 11 with fail
                refine wp_world ?_
                intro w23 hW13
                have hb : Below w22.heap.size w22 w23 := by rw [hW13]; exact (Below.refl _ _).alloc (Nat.le_refl _) _
                have HX := Lib.hid (show Blk w23 w22.heap.size 35 #[.slice A22 n c22, .int .i64 a.lo, .int .i64 a.hi, .int .i64 a.cur, .int .i64 16] from by rw [hW13]; exact Blk.new _ _ _)
                have HM222 := Lib.hid (ms_kept HM22.out hb)
                clear hW13 HM22 HC22
                clear cHA lHA cHO lHO
                have hs23 := hb.size
                have HL' := Lib.hid (HL.out.trans (hb.mono HL.out.size)); clear HL; have HL := HL'; clear HL'
                have HA' := Lib.hid (HA.out.kept hb); clear HA; have HA := HA'; clear HA'
                have HO' := Lib.hid (HO.out.kept hb); clear HO; have HO := HO'; clear HO'
                have FS' := Lib.hid (FS.out.kept hb); clear FS; have FS := FS'; clear FS'
                clear hb
                have cHA := HA.out.cell
                have lHA := HA.out.lt
                have cHO := HO.out.cell
                have lHO := HO.out.lt
                have cX := HX.out.cell
                have lX := HX.out.lt
                as_aux_lemma =>
                  (refine wp_region_calm [] [0, 3] 8 (by kernel_rfl) rfl (by kernel_rfl) (by kernel_rfl) (by kernel_rfl) ?_; simp only [pickB, List.filterMap_cons, List.filterMap_nil, List.getElem?_toArray, List.getElem?_cons_zero, List.getElem?_cons_succ]; (repeat (first | ((first | (with_reducible refine quietL_plain rfl (fun K hK => ?_)) | (with_reducible refine quietL_want (by with_unfolding_all rfl) (fun K hK => ?_))); (apply Exists.intro; refine ⟨fun wx hx => ?_, ?_⟩; (· (have hcx := ifs_ex hx); simp [go_sem, *, ↓IntWalk.iteOmega] <;> (first | rfl | exact ⟨rfl, rfl⟩ | fail)); (simp only [Act.put, List.setIfInBounds_toArray, List.set_cons_zero, List.set_cons_succ]; refine hK _ ?_; clear hK K))) | ((with_reducible refine quietL_skip (by with_unfolding_all rfl) ?_); simp only [Act.put, List.setIfInBounds_toArray, List.set_cons_zero, List.set_cons_succ]))); refine quietL_nil ?_)
                  (refine anyB_one (i := 1) (by kernel_rfl) rfl rfl ?_; intro w24 hb24 K hK; have hs24 := hb24.size; (try simp at hs24); go_wp2_with fail)
                  refine (HFt.out _ _ _ (ms_kept HM222.out hb24)).mono ?_
                  rintro e w25 ⟨At, ct, rfl, hm, _, hb25⟩
                  have hs25 := hb25.size
                  have HMt := Lib.hid hm; clear hm
                  (go_wp2; refine ⟨xs_, ?_⟩)
                  (refine anyB_one (i := 2) (by kernel_rfl) rfl rfl ?_; intro w26 hb26 K hK; have hs26 := hb26.size; (try simp at hs26); go_wp2_with fail)
                  refine (HFo.out _ _ _ (ms_kept HMt.out hb26)).mono ?_
                  rintro e w27 ⟨Ao, co, rfl, hm, hc, hb27⟩
                  have hs27 := hb27.size
                  have HMo := Lib.hid hm; have HKo := Lib.hid hc; clear hm hc HMt
                  (go_wp2; refine ⟨xs_, ?_⟩)
                  (refine anyB_one (i := 4) (by kernel_rfl) rfl rfl ?_; intro w28 hb28 K hK; have hs28 := hb28.size; (try simp at hs28); go_wp2_with fail)
                  refine (HFc.out _ _ _ (ms_kept HMo.out hb28) HKo.out).mono ?_
                  rintro e w29 ⟨v14, rfl, hr, _, hb29⟩
                  have hs29 := hb29.size
                  obtain ⟨A14, c14, rfl, _, _, hrd⟩ := own_form hr
                  have HRd := Lib.hid hrd
                  clear hr hrd HMo HKo
                  (go_wp2; refine ⟨xs_, ?_⟩)
                  (refine anyB_quiet_at (by kernel_rfl) calm_panic xs_ 2 [5, 6, 7] _ _ (by kernel_rfl) (by decide +kernel) ?_; simp only [pickB, List.filterMap_cons, List.filterMap_nil, List.getElem?_toArray, List.getElem?_cons_zero, List.getElem?_cons_succ]; (repeat (first | ((first | (with_reducible refine quietL_plain rfl (fun K hK => ?_)) | (with_reducible refine quietL_want (by with_unfolding_all rfl) (fun K hK => ?_))); (apply Exists.intro; refine ⟨fun wx hx => ?_, ?_⟩; (· (have hcx := ifs_ex hx); simp [go_sem, *, ↓IntWalk.iteOmega] <;> (first | rfl | exact ⟨rfl, rfl⟩ | fail)); (simp only [Act.put, List.setIfInBounds_toArray, List.set_cons_zero, List.set_cons_succ]; refine hK _ ?_; clear hK K))) | ((with_reducible refine quietL_skip (by with_unfolding_all rfl) ?_); simp only [Act.put, List.setIfInBounds_toArray, List.set_cons_zero, List.set_cons_succ]))); refine quietL_nil ?_)
                  (refine anyB_one (i := 8) (by kernel_rfl) rfl rfl ?_; intro w30 hb30 K hK; have hs30 := hb30.size; (try simp at hs30); go_wp2; refine ⟨xs_, ?_⟩)
                  (refine anyB_one (i := 9) (by kernel_rfl) rfl rfl ?_; intro w31 hb31 K hK; have hs31 := hb31.size; (try simp at hs31); go_wp2; refine ⟨xs_, ?_⟩)
                  (refine anyB_end (by kernel_rfl) ?_; intro w32 hb32; have hs32 := hb32.size; (try simp at hs32); simp only [Calm])
                  have FT := Lib.hid ((((⟨HRd.out⟩ : RdI w29 A14 _ _).kept hb30).kept hb31).kept hb32)
                  clear HRd HX cX lX HM222
                  have hb := hb24.trans ((hb25.trans ((hb26.trans ((hb27.trans ((hb28.trans ((hb29.trans ((hb30.trans ((hb31.trans ((hb32).mono hs31)).mono hs30)).mono hs29)).mono hs28)).mono hs27)).mono hs26)).mono hs25)).mono hs24)
                  clear hb24 hb25 hb26 hb27 hb28 hb29 hb30 hb31 hb32 hs24 hs25 hs26 hs27 hs28 hs29 hs30 hs31 hs32
                  clear cHA lHA cHO lHO
                  have hs32 := hb.size
                  have HL' := Lib.hid (HL.out.trans (hb.mono HL.out.size)); clear HL; have HL := HL'; clear HL'
                  have HA' := Lib.hid (HA.out.kept hb); clear HA; have HA := HA'; clear HA'
                  have HO' := Lib.hid (HO.out.kept hb); clear HO; have HO := HO'; clear HO'
                  have FS' := Lib.hid (FS.out.kept hb); clear FS; have FS := FS'; clear FS'
                  clear hb
                  have cHA := HA.out.cell
                  have lHA := HA.out.lt
                  have cHO := HO.out.cell
                  have lHO := HO.out.lt
                  as_aux_lemma =>
                    have h0 := H0.out
                    rcases HFr.out.2 h0 with ⟨h21, hf0⟩ | ⟨h21, hf0⟩
                    · subst hf0
                      subst h21
                      as_aux_lemma =>
                        go_wp2_with fail
                        go_ret
                        exact ⟨rfl, HL.out⟩
                    · subst hf0
                      have hd1 : (ef == 21) = false := by simpa using h21
                      have hd2 : (ef != 21) = true := by simpa using h21
                      have hd3 : (ef != 0) = true := by simpa using h0
                      as_aux_lemma =>
                        go_wp2_with fail
                        go_ret
                        exact ⟨rfl, HL.out⟩
end Go.Proofs.YtfpjcnkfoehhmaaGreatDoor
