/- The law ArmBack. -/
import Derived.Test.YtjanojmgnpfjeaaGreatDoorDW
import Derived.Test.YtjanojmgnpfjeaaGreatDoorQr
import Derived.Test.YtjanojmgnpfjeaaGreatDoorDA
import Derived.Deep.DeepCutAuto
import Derived.Deep.CutBlock
namespace Go.Proofs.YtjanojmgnpfjeaaGreatDoor
open Go Go.RowKit Go.Sort Go.Shelf
set_option linter.unusedSimpArgs false
set_option linter.unusedVariables false
attribute [local go_sem] cell_if frozen_if grow_cell
/-- A parse that gives no arm. -/
def NoArm (t : ByteArray) (j : Nat) (W : World) : Prop :=
  Calls Tryz.prog 24 #[.string t] W fun en w' => ∃ K k, en = .returned (.tuple #[.agg #[.slice K 0 k, .int .i64 0, .int .i64 0, .int .i64 0, .int .i64 0], .int .i64 (j : Int), .int .i64 25]) ∧ Below W.heap.size W w'
theorem valid_of {a : Ar} (h : validA a = true) : a.m.length ≤ 8 ∧ armE a = 0 := by
  unfold validA at h
  simp only [Bool.and_eq_true, decide_eq_true_eq, beq_iff_eq] at h
  exact ⟨h.1.2, h.2⟩
theorem printed_ne (a : Ar) : 0 < (printL a).length := by
  unfold printL linesA lineL
  rw [List.flatMap_cons]
  simp
  omega
set_option maxRecDepth 1000000 in
set_option maxHeartbeats 16000000 in
theorem back_any (A : Option Addr) (n c : Nat) (a : Ar) (s : ByteArray) (w : World) (hM : MsAt w w.heap.size A n a.m) (hn : n ≤ maxLen) (hnm : ∀ x ∈ a.m, x.n.size ≤ maxLen) (hsz : s.size ≤ maxLen) (hT : TabT w) :
    Calls Tryz.prog 5 #[.agg #[.slice A n c, .int .i64 a.lo, .int .i64 a.hi, .int .i64 a.cur, .int .i64 a.lim], .string s] w fun e w' => e = .returned (.bool true) ∧ Below w.heap.size w w' := by
  have hl := (md_at hM).1
  have hmx : maxLen = 9223372036854775807 := rfl
  rw [hmx] at hn hsz
  have HT := Lib.hid hT
  have HAw := Lib.hid (fun W (hW : Below w.heap.size w W) => awake_ok w W hT hW)
  have HSh := Lib.hid (fun W (hW : Below w.heap.size w W) => valid_any w.heap.size A n c a W (hM.below hW) hW.size (by unfold maxLen; omega) hnm)
  clear hmx hT
  cases hs : validA a with
  | false =>
    rw [hs] at HSh
    clear hM hnm hl hs
    as_aux_lemma =>
      go_enter Tryz.func5, Tryz.ntmps5
      go_wp2_with fail
      refine (HAw.out _ bl_).mono ?_
      rintro e w1 ⟨rfl, hb⟩
      have HA : Hid (Blk w1 (w.heap.size) 26 #[.slice A n c, .int .i64 a.lo, .int .i64 a.hi, .int .i64 a.cur, .int .i64 a.lim]) := Lib.hid bk_
      have HL : Hid (Below w.heap.size w w1) := Lib.hid bl_
      have hs1 := HL.out.size
      clear hb
      have cHA := HA.out.cell
      have lHA := HA.out.lt
      go_wp2_with fail
      refine (HSh.out _ HL.out).mono ?_
      rintro e w2 ⟨rfl, hb⟩
      clear cHA lHA
      have hs2 := hb.size
      have HL' := Lib.hid (HL.out.trans (hb.mono HL.out.size)); clear HL; have HL := HL'; clear HL'
      have HA' := Lib.hid (HA.out.kept hb); clear HA; have HA := HA'; clear HA'
      clear hb
      have cHA := HA.out.cell
      have lHA := HA.out.lt
      go_wp2_with fail
      refine (HAw.out _ HL.out).mono ?_
      rintro e w3 ⟨rfl, hb⟩
      clear cHA lHA
      have hs3 := hb.size
      have HL' := Lib.hid (HL.out.trans (hb.mono HL.out.size)); clear HL; have HL := HL'; clear HL'
      have HA' := Lib.hid (HA.out.kept hb); clear HA; have HA := HA'; clear HA'
      clear hb
      have cHA := HA.out.cell
      have lHA := HA.out.lt
      go_wp2_with fail
      go_ret
      exact ⟨rfl, HL.out⟩
  | true =>
    rw [hs] at HSh
    by_cases hok : s.size ≤ 300
    case neg =>
      as_aux_lemma =>
        have hd : (300 : Int) < (s.size : Int) := by omega
        have hd2 : decide ((300 : Int) < (s.size : Int)) = true := decide_eq_true hd
        clear hM hnm hl hs hok
        go_enter Tryz.func5, Tryz.ntmps5
        go_wp2_with fail
        refine (HAw.out _ bl_).mono ?_
        rintro e w1 ⟨rfl, hb⟩
        have HA : Hid (Blk w1 (w.heap.size) 26 #[.slice A n c, .int .i64 a.lo, .int .i64 a.hi, .int .i64 a.cur, .int .i64 a.lim]) := Lib.hid bk_
        have HL : Hid (Below w.heap.size w w1) := Lib.hid bl_
        have hs1 := HL.out.size
        clear hb
        have cHA := HA.out.cell
        have lHA := HA.out.lt
        go_wp2_with fail
        refine (HSh.out _ HL.out).mono ?_
        rintro e w2 ⟨rfl, hb⟩
        clear cHA lHA
        have hs2 := hb.size
        have HL' := Lib.hid (HL.out.trans (hb.mono HL.out.size)); clear HL; have HL := HL'; clear HL'
        have HA' := Lib.hid (HA.out.kept hb); clear HA; have HA := HA'; clear HA'
        clear hb
        have cHA := HA.out.cell
        have lHA := HA.out.lt
        go_wp2_with fail
        refine (HAw.out _ HL.out).mono ?_
        rintro e w3 ⟨rfl, hb⟩
        clear cHA lHA
        have hs3 := hb.size
        have HL' := Lib.hid (HL.out.trans (hb.mono HL.out.size)); clear HL; have HL := HL'; clear HL'
        have HA' := Lib.hid (HA.out.kept hb); clear HA; have HA := HA'; clear HA'
        clear hb
        have cHA := HA.out.cell
        have lHA := HA.out.lt
        go_wp2_with fail
        go_ret
        exact ⟨rfl, HL.out⟩
    case pos =>
      have hd : ¬ (300 : Int) < (s.size : Int) := by omega
      have hd2 : decide ((300 : Int) < (s.size : Int)) = false := decide_eq_false hd
      obtain ⟨h8, hE⟩ := valid_of hs
      rw [hl] at h8
      have hFit := fit_of hE
      have hF : FitA a := ⟨by rw [hl]; omega, hnm⟩
      have hl4 := printed_len hFit
      obtain ⟨hp1, hp2⟩ := parse_print hFit hE (by omega)
      obtain ⟨hf1, hf2⟩ := printed_few hFit
      have hst : (toB (printL a)).size = (printL a).length := by show (printL a).toArray.size = _; simp
      have hne := printed_ne a
      have hex : (toB (printL a)).extract 0 ((toB (printL a)).size - 1) = toB (printL a).dropLast := by
        rw [ext_take, toB_list, hst, List.dropLast_eq_take]
      have hc := parse_cut hFit (by omega)
      have hpr : prT a = toB (printL a) := if_pos hE
      have HPa3 := Lib.hid (fun W => (show NoArm ((toB (printL a)).extract 0 ((toB (printL a)).size - 1)) n W from by
        have h := Parse_lines (toB (printL a).dropLast) W (by show (printL a).dropLast.toArray.size ≤ 4096; simp; omega) hf2
        rw [hc, hl] at h
        rw [hex]
        exact h.mono (fun e w' hr => by
          obtain ⟨K, k, e1, _, _, hb⟩ := hr
          exact ⟨K, k, e1, hb⟩)))
      have HPa1 := Lib.hid (fun W => (Parse_lines (toB (printL a)) W (by omega) hf1).mono (pa_rz hp1))
      have HSp := Lib.hid (fun W => (show Calls Tryz.prog 28 #[.string (toB (printL a)), .int .u8 10] W fun e w' => ∃ g cap, e = .returned (.slice (some ⟨g, 0, none⟩) (n + 2) cap) ∧ Below W.heap.size W w' from by
        refine (Split_any (toB (printL a)) 10 W (by omega)).mono ?_
        rintro e w' ⟨g, cap, rfl, _, hb⟩
        exact ⟨g, cap, by rw [hp2, hl], hb⟩))
      have HOw := Lib.hid (fun W (hW : Below w.heap.size w W) => own_r w.heap.size A n c a W (hM.below hW) hW.size (by omega))
      have HPr := Lib.hid (fun W A c (hW : Below w.heap.size w W) (hm : MsAt W W.heap.size A n a.m) (hc : n ≤ c) => Print_uni W.heap.size A n c a W hm (Nat.le_refl _) hF hc (HT.out.kept hW))
      rw [hpr, hE] at HPr
      obtain ⟨z, j, er, hp⟩ : ∃ z j er, parseA s = (z, j, er) := ⟨_, _, _, rfl⟩
      have htl : z.m.length ≤ 16 := parseA_16 hp
      have HPa2 := Lib.hid (fun W => (Parse_any s W (.inl hok)).mono (pa_rz hp))
      have HPz := Lib.hid (fun (h : er = 0) W A c (hW : Below w.heap.size w W) (hm : MsAt W W.heap.size A z.m.length z.m) (hc : z.m.length ≤ c) => (show Calls Tryz.prog 23 #[.agg #[.slice A z.m.length c, .int .i64 z.lo, .int .i64 z.hi, .int .i64 z.cur, .int .i64 z.lim]] W fun e w' => e = .returned (.tuple #[.string s, .int .i64 0]) ∧ Below W.heap.size W w' from by
        subst h
        obtain ⟨_, h1, h2⟩ := parse_back hp
        have hz := fit_of h1
        have hh := Print_uni W.heap.size A z.m.length c z W hm (Nat.le_refl _) ⟨by have := hz.n16; omega, fun x hx => Nat.le_trans (name_clean (hz.nm x hx)).2.2 (by unfold maxLen; decide)⟩ hc (HT.out.kept hW)
        rw [show prT z = s from (if_pos h1).trans h2, h1] at hh
        exact hh))
      have HTb := Lib.hid (fun W A c (hm : MsAt W W.heap.size A a.m.length a.m) => told_r W.heap.size A a.m.length c a W hm (Nat.le_refl _) (by omega))
      have HSb := Lib.hid (fun W A1 A2 c1 c2 (h1 : MsAt W W.heap.size A1 n a.m) (h2 : MsAt W W.heap.size A2 n a.m) => Same_self W.heap.size W.heap.size A1 A2 n c1 c2 a W h1 h2 (Nat.le_refl _) (Nat.le_refl _) (by omega))
      rw [hl] at HTb
      unfold PaRz at HPa1
      rw [hl] at HPa1
      have HMs := Lib.hid hM
      have ht0 : 0 < (toB (printL a)).size := by omega
      have ht4 : (toB (printL a)).size ≤ 3500 := by omega
      clear hM hnm hF hs htl hl hex hst hc hp1 hp2 hf1 hf2 hne hpr hp hE hFit hl4
      generalize toB (printL a) = t at *
      obtain ⟨m, hm⟩ : ∃ m, t.size = m + 1 := ⟨t.size - 1, by omega⟩
      have hwr : IntKind.i64.wrap ((t.size : Int) - 1) = (m : Int) := by rw [IntKind.wrap_i64]; omega
      have hmn : m ≤ t.size := by omega
      have hw1 : IntKind.i64.wrap ((n : Int) + 2) = (n : Int) + 2 := by rw [IntKind.wrap_i64]; omega
      rw [show t.size - 1 = m by omega] at HPa3
      clear ht0 ht4 hm
      go_enter Tryz.func5, Tryz.ntmps5
      go_upto_region 1 with fail
      refine wp_world ?_
      intro w1 hW
      have HA : Hid (Blk w1 (w.heap.size) 26 #[.slice A n c, .int .i64 a.lo, .int .i64 a.hi, .int .i64 a.cur, .int .i64 a.lim]) := Lib.hid (by rw [hW]; exact Blk.new _ _ _)
      have HL : Hid (Below w.heap.size w w1) := Lib.hid (by rw [hW]; exact (Below.refl _ _).alloc (Nat.le_refl _) _)
      have hs1 := HL.out.size
      clear hW
      go_cut [29] (fun s29 wx => s29 = .bool false ∧ Below w1.heap.size w1 wx)
      case first =>
        as_aux_lemma =>
          have cHA := HA.out.cell
          have lHA := HA.out.lt
          go_wp2_with fail
          refine (HAw.out _ HL.out).mono ?_
          rintro e w2 ⟨rfl, hb⟩
          have HL2 := Lib.hid (HL.out.trans (hb.mono hs1))
          have HB2 := Lib.hid hb
          have HA2 := HA.out.kept hb
          clear cHA lHA HA hb
          have cHA := HA2.cell
          have lHA := HA2.lt
          go_wp2_with fail
          refine (HSh.out _ HL2.out).mono ?_
          rintro e w3 ⟨rfl, hb3⟩
          have HB3 := Lib.hid (HB2.out.trans (hb3.mono HB2.out.size))
          clear hb3 HB2 cHA lHA HA2
          go_wp2_with fail
          go_meet
          case rel => exact ⟨rfl, HB3.out⟩
      rename World => w2
      obtain ⟨rfl, hb⟩ := hcut
      clear hok HSh HAw hd hd2
      replace HMs := Lib.hid (ms_kept HMs.out HL.out)
      have hs2 := hb.size
      have HL' := Lib.hid (HL.out.trans (hb.mono HL.out.size)); clear HL; have HL := HL'; clear HL'
      have HA' := Lib.hid (HA.out.kept hb); clear HA; have HA := HA'; clear HA'
      have HMs' := Lib.hid (ms_kept HMs.out hb); clear HMs; have HMs := HMs'; clear HMs'
      clear hb
      have cHA := HA.out.cell
      have lHA := HA.out.lt
      as_aux_lemma =>
        go_wp2_with fail
        refine (HOw.out _ HL.out).mono ?_
        rintro e w3 ⟨A3, c3, rfl, hm, hc, hb⟩
        have HM3 := Lib.hid hm; have HC3 := Lib.hid hc; clear hm hc
        clear cHA lHA
        have hs3 := hb.size
        have HL' := Lib.hid (HL.out.trans (hb.mono HL.out.size)); clear HL; have HL := HL'; clear HL'
        have HA' := Lib.hid (HA.out.kept hb); clear HA; have HA := HA'; clear HA'
        have HMs' := Lib.hid (ms_kept HMs.out hb); clear HMs; have HMs := HMs'; clear HMs'
        clear hb
        have cHA := HA.out.cell
        have lHA := HA.out.lt
        go_wp2_with fail
        refine (HPr.out _ _ _ HL.out HM3.out HC3.out).mono ?_
        rintro e w4 ⟨rfl, hb⟩
        clear HM3 HC3
        clear cHA lHA
        have hs4 := hb.size
        have HL' := Lib.hid (HL.out.trans (hb.mono HL.out.size)); clear HL; have HL := HL'; clear HL'
        have HA' := Lib.hid (HA.out.kept hb); clear HA; have HA := HA'; clear HA'
        have HMs' := Lib.hid (ms_kept HMs.out hb); clear HMs; have HMs := HMs'; clear HMs'
        clear hb
        have cHA := HA.out.cell
        have lHA := HA.out.lt
        as_aux_lemma =>
          go_wp2_with fail
          refine (HPa1.out _).mono ?_
          rintro e w5 ⟨A5, c5, rfl, hm, hc, hb⟩
          have HM5 := Lib.hid hm; have HC5 := Lib.hid hc; clear hm hc
          clear cHA lHA
          have hs5 := hb.size
          have HL' := Lib.hid (HL.out.trans (hb.mono HL.out.size)); clear HL; have HL := HL'; clear HL'
          have HA' := Lib.hid (HA.out.kept hb); clear HA; have HA := HA'; clear HA'
          have HMs' := Lib.hid (ms_kept HMs.out hb); clear HMs; have HMs := HMs'; clear HMs'
          clear hb
          have cHA := HA.out.cell
          have lHA := HA.out.lt
          go_upto_region 5 with fail
          refine wp_world ?_
          intro w6 hW
          have HP := Lib.hid (show Blk w6 w5.heap.size 36 #[.slice A5 n c5, .int .i64 a.lo, .int .i64 a.hi, .int .i64 a.cur, .int .i64 a.lim] from by rw [hW]; exact Blk.new _ _ _)
          have HPM := Lib.hid (show MsAt w6 w6.heap.size A5 n a.m from by rw [hW]; exact ms_kept HM5.out ((Below.refl _ _).alloc (Nat.le_refl _) _))
          have HPC := HC5
          have hb : Below w5.heap.size w5 w6 := by rw [hW]; exact (Below.refl _ _).alloc (Nat.le_refl _) _
          clear hW HM5 HC5
          clear cHA lHA
          have hs6 := hb.size
          have HL' := Lib.hid (HL.out.trans (hb.mono HL.out.size)); clear HL; have HL := HL'; clear HL'
          have HA' := Lib.hid (HA.out.kept hb); clear HA; have HA := HA'; clear HA'
          have HMs' := Lib.hid (ms_kept HMs.out hb); clear HMs; have HMs := HMs'; clear HMs'
          clear hb
          have cHA := HA.out.cell
          have lHA := HA.out.lt
          have cHP := HP.out.cell
          have lHP := HP.out.lt
          as_aux_lemma =>
            go_wp2_with fail
            (refine wp_region_calm [] [0, 1, 2, 3, 4, 5, 6, 7, 8, 9, 10, 11, 13] 14 (by kernel_rfl) rfl (by kernel_rfl) (by kernel_rfl) (by kernel_rfl) ?_; simp only [pickB, List.filterMap_cons, List.filterMap_nil, List.getElem?_toArray, List.getElem?_cons_zero, List.getElem?_cons_succ]; (repeat (first | ((first | (with_reducible refine quietL_plain rfl (fun K hK => ?_)) | (with_reducible refine quietL_want (by with_unfolding_all rfl) (fun K hK => ?_))); (apply Exists.intro; refine ⟨fun wx hx => ?_, ?_⟩; (· (have hcx := ifs_ex hx); simp [go_sem, *, ↓IntWalk.iteOmega] <;> (first | rfl | exact ⟨rfl, rfl⟩ | fail)); (simp only [Act.put, List.setIfInBounds_toArray, List.set_cons_zero, List.set_cons_succ]; refine hK _ ?_; clear hK K))) | ((with_reducible refine quietL_skip (by with_unfolding_all rfl) ?_); simp only [Act.put, List.setIfInBounds_toArray, List.set_cons_zero, List.set_cons_succ]))); refine quietL_nil ?_)
            (refine anyB_one_want (i := 12) (by kernel_rfl) rfl (by kernel_rfl) ?_; intro w7 hb7 K hK; have hs7 := hb7.size; (try simp at hs7); go_wp2_with fail)
            refine (HTb.out _ _ _ (ms_kept HPM.out hb7)).mono ?_
            rintro e w8 ⟨At1, ct1, rfl, hm, _, hb8⟩
            have hs8 := hb8.size
            have HM4 := Lib.hid hm
            clear hm
            (go_wp2; refine ⟨xs_, ?_⟩)
            (refine anyB_one_want (i := 14) (by kernel_rfl) rfl (by kernel_rfl) ?_; intro w9 hb9 K hK; have hs9 := hb9.size; (try simp at hs9); go_wp2_with fail)
            refine (HSb.out _ _ _ _ _ (ms_kept HM4.out hb9) (ms_kept (ms_kept (ms_kept HMs.out hb7) hb8) hb9)).mono ?_
            rintro e w10 ⟨rfl, hb10⟩
            have hs10 := hb10.size
            (go_wp2; refine ⟨xs_, ?_⟩)
            (refine anyB_quiet_at (by kernel_rfl) calm_panic xs_ 4 [15, 16, 17, 18, 21, 22, 23, 24] _ _ (by kernel_rfl) (by decide +kernel) ?_; simp only [pickB, List.filterMap_cons, List.filterMap_nil, List.getElem?_toArray, List.getElem?_cons_zero, List.getElem?_cons_succ]; (repeat (first | ((first | (with_reducible refine quietL_plain rfl (fun K hK => ?_)) | (with_reducible refine quietL_want (by with_unfolding_all rfl) (fun K hK => ?_))); (apply Exists.intro; refine ⟨fun wx hx => ?_, ?_⟩; (· (have hcx := ifs_ex hx); simp [go_sem, *, ↓IntWalk.iteOmega] <;> (first | rfl | exact ⟨rfl, rfl⟩ | fail)); (simp only [Act.put, List.setIfInBounds_toArray, List.set_cons_zero, List.set_cons_succ]; refine hK _ ?_; clear hK K))) | ((with_reducible refine quietL_skip (by with_unfolding_all rfl) ?_); simp only [Act.put, List.setIfInBounds_toArray, List.set_cons_zero, List.set_cons_succ]))); refine quietL_nil ?_)
            (refine anyB_one_want (i := 19) (by kernel_rfl) rfl (by kernel_rfl) ?_; intro w11 hb11 K hK; have hs11 := hb11.size; (try simp at hs11); go_wp2_with fail)
            refine (HSp.out _).mono ?_
            rintro e w12 ⟨gF, cF, rfl, hb12⟩
            have hs12 := hb12.size
            (go_wp2; refine ⟨xs_, ?_⟩)
            (refine anyB_quiet_at (by kernel_rfl) calm_panic xs_ 0 [20, 25, 26] _ _ (by kernel_rfl) (by decide +kernel) ?_; simp only [pickB, List.filterMap_cons, List.filterMap_nil, List.getElem?_toArray, List.getElem?_cons_zero, List.getElem?_cons_succ]; (repeat (first | ((first | (with_reducible refine quietL_plain rfl (fun K hK => ?_)) | (with_reducible refine quietL_want (by with_unfolding_all rfl) (fun K hK => ?_))); (apply Exists.intro; refine ⟨fun wx hx => ?_, ?_⟩; (· (have hcx := ifs_ex hx); simp [go_sem, *, ↓IntWalk.iteOmega] <;> (first | rfl | exact ⟨rfl, rfl⟩ | fail)); (simp only [Act.put, List.setIfInBounds_toArray, List.set_cons_zero, List.set_cons_succ]; refine hK _ ?_; clear hK K))) | ((with_reducible refine quietL_skip (by with_unfolding_all rfl) ?_); simp only [Act.put, List.setIfInBounds_toArray, List.set_cons_zero, List.set_cons_succ]))); refine quietL_nil ?_)
            (refine anyB_end (by kernel_rfl) ?_; intro w13 hb13; have hs13 := hb13.size; (try simp at hs13); simp only [Calm])
            have hb := hb7.trans ((hb8.trans ((hb9.trans ((hb10.trans ((hb11.trans ((hb12.trans ((hb13).mono hs12)).mono hs11)).mono hs10)).mono hs9)).mono hs8)).mono hs7)
            clear HM4 hb7 hb8 hb9 hb10 hb11 hb12 hb13 hs7 hs8 hs9 hs10 hs11 hs12
            clear hs13
            clear cHA lHA cHP lHP
            have hs13 := hb.size
            have HL' := Lib.hid (HL.out.trans (hb.mono HL.out.size)); clear HL; have HL := HL'; clear HL'
            have HA' := Lib.hid (HA.out.kept hb); clear HA; have HA := HA'; clear HA'
            have HMs' := Lib.hid (ms_kept HMs.out hb); clear HMs; have HMs := HMs'; clear HMs'
            have HP' := Lib.hid (HP.out.kept hb); clear HP; have HP := HP'; clear HP'
            have HPM' := Lib.hid (ms_kept HPM.out hb); clear HPM; have HPM := HPM'; clear HPM'
            clear hb
            have cHA := HA.out.cell
            have lHA := HA.out.lt
            have cHP := HP.out.cell
            have lHP := HP.out.lt
            as_aux_lemma =>
              go_wp2_with fail
              refine (HPa2.out _).mono ?_
              rintro e w14 ⟨A14, c14, rfl, hm, hc, hb⟩
              have HM14 := Lib.hid hm; have HC14 := Lib.hid hc; clear hm hc
              clear cHA lHA cHP lHP
              have hs14 := hb.size
              have HL' := Lib.hid (HL.out.trans (hb.mono HL.out.size)); clear HL; have HL := HL'; clear HL'
              have HA' := Lib.hid (HA.out.kept hb); clear HA; have HA := HA'; clear HA'
              have HMs' := Lib.hid (ms_kept HMs.out hb); clear HMs; have HMs := HMs'; clear HMs'
              have HP' := Lib.hid (HP.out.kept hb); clear HP; have HP := HP'; clear HP'
              have HPM' := Lib.hid (ms_kept HPM.out hb); clear HPM; have HPM := HPM'; clear HPM'
              clear hb
              have cHA := HA.out.cell
              have lHA := HA.out.lt
              have cHP := HP.out.cell
              have lHP := HP.out.lt
              go_upto_region 8 with fail
              refine wp_world ?_
              intro w15 hW
              have HQ := Lib.hid (show Blk w15 w14.heap.size 36 #[.slice A14 z.m.length c14, .int .i64 z.lo, .int .i64 z.hi, .int .i64 z.cur, .int .i64 z.lim] from by rw [hW]; exact Blk.new _ _ _)
              have HQM := Lib.hid (show MsAt w15 w15.heap.size A14 z.m.length z.m from by rw [hW]; exact ms_kept HM14.out ((Below.refl _ _).alloc (Nat.le_refl _) _))
              have HQC := HC14
              have hb : Below w14.heap.size w14 w15 := by rw [hW]; exact (Below.refl _ _).alloc (Nat.le_refl _) _
              clear hW HM14 HC14
              clear cHA lHA cHP lHP
              have hs15 := hb.size
              have HL' := Lib.hid (HL.out.trans (hb.mono HL.out.size)); clear HL; have HL := HL'; clear HL'
              have HA' := Lib.hid (HA.out.kept hb); clear HA; have HA := HA'; clear HA'
              have HMs' := Lib.hid (ms_kept HMs.out hb); clear HMs; have HMs := HMs'; clear HMs'
              have HP' := Lib.hid (HP.out.kept hb); clear HP; have HP := HP'; clear HP'
              have HPM' := Lib.hid (ms_kept HPM.out hb); clear HPM; have HPM := HPM'; clear HPM'
              clear hb
              have cHA := HA.out.cell
              have lHA := HA.out.lt
              have cHP := HP.out.cell
              have lHP := HP.out.lt
              have cHQ := HQ.out.cell
              have lHQ := HQ.out.lt
              go_upto_if 77 with fail
              go_cut [] (fun wx => Below w15.heap.size w15 wx)
              case first =>
                as_aux_lemma =>
                  clear HPa1 HPa3 HTb HSb HP HPM cHP lHP HSp
                  by_cases h0 : er = 0
                  case pos =>
                    have HPy := Lib.hid (HPz.out h0)
                    clear HPz
                    subst h0
                    go_wp2_with fail
                    refine (HPy.out _ _ _ HL.out HQM.out HQC.out).mono ?_
                    rintro e wx ⟨rfl, hb⟩
                    go_wp2_with fail
                    go_meet
                    case rel => exact hb
                  case neg =>
                    have hne : (er == 0) = false := by simpa using h0
                    go_wp2_with fail
                    go_meet
                    case rel => exact Below.refl _ _
              rename World => w16
              have hb := hcut
              clear hcut
              clear cHA lHA cHP lHP cHQ lHQ
              have hs16 := hb.size
              have HL' := Lib.hid (HL.out.trans (hb.mono HL.out.size)); clear HL; have HL := HL'; clear HL'
              have HA' := Lib.hid (HA.out.kept hb); clear HA; have HA := HA'; clear HA'
              have HMs' := Lib.hid (ms_kept HMs.out hb); clear HMs; have HMs := HMs'; clear HMs'
              have HP' := Lib.hid (HP.out.kept hb); clear HP; have HP := HP'; clear HP'
              have HPM' := Lib.hid (ms_kept HPM.out hb); clear HPM; have HPM := HPM'; clear HPM'
              have HQ' := Lib.hid (HQ.out.kept hb); clear HQ; have HQ := HQ'; clear HQ'
              have HQM' := Lib.hid (ms_kept HQM.out hb); clear HQM; have HQM := HQM'; clear HQM'
              clear hb
              have cHA := HA.out.cell
              have lHA := HA.out.lt
              have cHP := HP.out.cell
              have lHP := HP.out.lt
              have cHQ := HQ.out.cell
              have lHQ := HQ.out.lt
              as_aux_lemma =>
                clear HPa1 HPa2 HPz HTb HSb HSp HOw HPr
                go_wp2_with fail
                refine (HPa3.out _).mono ?_
                rintro e wq ⟨K, kk, rfl, hbq⟩
                have HBq := Lib.hid (HL.out.trans (hbq.mono HL.out.size))
                have HAq := HA.out.kept hbq
                clear hbq cHA lHA cHP lHP cHQ lHQ
                have cHA := HAq.cell
                have lHA := HAq.lt
                go_wp2_with fail
                go_ret
                have hq0 := HBq.out.size
                exact ⟨by first | rfl | (simp; done), HBq.out.alloc hq0 _⟩
end Go.Proofs.YtjanojmgnpfjeaaGreatDoor
