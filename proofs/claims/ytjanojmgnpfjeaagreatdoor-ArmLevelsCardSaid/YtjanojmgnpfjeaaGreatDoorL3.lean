/- Levels and Mirrored of the program, whatever the input. -/
import Derived.Test.YtjanojmgnpfjeaaGreatDoorL2
import Derived.Test.YtjanojmgnpfjeaaGreatDoorQn
import Derived.Test.YtjanojmgnpfjeaaGreatDoorUA2
import Derived.Test.YtjanojmgnpfjeaaGreatDoorQd
namespace Go.Proofs.YtjanojmgnpfjeaaGreatDoor
open Go Go.RowKit Go.Sort Go.Shelf
set_option linter.unusedSimpArgs false
set_option linter.unusedVariables false
attribute [local go_sem] cell_if frozen_if grow_cell
set_option maxRecDepth 100000 in
set_option maxHeartbeats 2000000 in
theorem mapFE_all (B : Nat) (A : Option Addr) (n c : Nat) (l : List Nat) (w : World) (hr : Reads w B 1 A n (l.map (Value.float .f32))) (hB : B ≤ w.heap.size) (hn : n ≤ 1000) :
    Calls Tryz.prog 61 #[.slice A n c, .func (.func 62) #[] #[]] w (MapRes 31 w (l.map fun x => Value.int .i64 (sampE x))) := by
  obtain ⟨hl, ha⟩ := enc_at hr
  have HL := Lib.hid hl
  have HA := Lib.hid ha
  clear hl ha hr
  
  go_enter Tryz.func61, Tryz.ntmps61
  go_wp2_with fail
  go_loopw [5, 7, 10] (fun v s7 i wr => ∃ k : Nat, k ≤ n ∧ i = .int .i64 k ∧ wr.ownsRow w.heap.size 31 1 v k ((l.take k).map fun x => Value.int .i64 (sampE x)) ∧ Below w.heap.size w wr) (fun _ _ i _ => n - (intOf i).toNat)
  case atStart => exact ⟨0, by omega, rfl, World.ownsRow_nil _ _ _ _, bl_⟩
  case round =>
    obtain ⟨k, hk, rfl, hO, hb⟩ := hrel
    have HO := Lib.hid hO
    clear hO
    have hs := hb.size
    by_cases hlt : k < n
    · have hkl : k < l.length := by rw [HL.out]; exact hlt
      obtain ⟨b, o, eA, hbb, z0⟩ := HA.out k hkl
      have kb : ∀ i, wr.cell? ⟨b, i, none⟩ = w.cell? ⟨b, i, none⟩ := fun i => hb.cell (p := ⟨b, i, none⟩) (by simp; omega)
      rw [← kb] at z0
      clear kb
      have hbw : b < wr.heap.size := by omega
      subst eA
      have hmem := List.getElem_mem hkl
      have Hd : Hid (((l.take (k + 1)).map fun x => Value.int .i64 (sampE x)) = ((l.take k).map fun x => Value.int .i64 (sampE x)) ++ [(fun x => Value.int .i64 (sampE x)) l[k]]) := by
        show _ = _
        rw [List.take_succ_eq_append_getElem hkl, List.map_append]; rfl
      generalize l[k] = x at *
      clear hmem
      go_wp2_with (first | (go_at_call 62; refine (CheckSample_any x _).mono ?_; rintro e w1 ⟨rfl, hb1⟩; have hs1 := hb1.size; have HO1 := Lib.hid (own_kept HO.out hb1)) | (at_builtin; refine wpList_app 113 31 1 8 elemErrno rfl (.tmp 14) (.tmp 18) rfl w.heap.size _ k _ rfl HO1.out 1 rfl rfl ?h1 (by decide) ?h3 (by omega) (by omega) ?_))
      case h1 => rfl
      case h3 => unfold maxLen; omega
      intro g' cap' w' hown' hb' _ hs'
      go_wp2
      go_roundw
      case rel => exact ⟨k + 1, by omega, by go_num, by rw [Hd.out]; simpa using hown', (hb.trans (hb1.mono hs)).trans hb'⟩
      case measure => simp [intOf]; omega
    · obtain rfl : k = n := by omega
      have HL2 := Lib.hid HL.out
      go_wp2
      go_ret
      refine ⟨_, rfl, ?_, hb⟩
      have := HO.out
      rw [List.take_of_length_le (by rw [HL2.out]; exact Nat.le_refl _)] at this
      rw [List.length_map, HL2.out]
      exact this
/-- The error of levels. -/
def levE1 (a : Ar) (n : Nat) : Int := firstE [armE a, whenE (decide ((256 : Int) < (n : Int))) 5]
def levE2 (l : List Nat) (amp : Int) : Int := firstE [firstE (l.map sampE), ckR amp 1 16384]
def levE (a : Ar) (n : Nat) (l : List Nat) (amp : Int) : Int := if levE1 a n = 0 then levE2 l amp else levE1 a n
def levs (a : Ar) (l : List Nat) (amp : Int) : List Int := l.map fun x => levI (usL a).length amp (sampV x)
def LvRes (w : World) (er : Int) (zs : List Int) (e : Ending) (w' : World) : Prop := ∃ A c, e = .returned (.tuple #[.slice A zs.length c, .int .i64 er]) ∧ Reads w' w'.heap.size 1 A zs.length (zs.map (.int .i64)) ∧ Below w.heap.size w w'
theorem samps_ok : ∀ {l : List Nat}, firstE (l.map sampE) = 0 → SampsOk l sampV
  | [], _ => fun x hx => (by cases hx)
  | y :: r, h => by
    rw [List.map_cons, firstE_cons] at h
    obtain ⟨h1, h2⟩ := or0_zero h
    intro x hx
    rcases List.mem_cons.1 hx with rfl | hx
    · exact sampE_samp h1
    · exact samps_ok h2 x hx
theorem lev_res {w : World} {er : Int} (h : er ≠ 0) {w' : World} (hb : Below w.heap.size w w') : LvRes w er [] (.returned (.tuple #[.slice none 0 0, .int .i64 er])) w' := ⟨none, 0, rfl, Reads.nil_, hb⟩
set_option maxRecDepth 100000 in
set_option maxHeartbeats 4000000 in
theorem Levels_bad1 (B : Nat) (A A2 : Option Addr) (n c n2 c2 : Nat) (a : Ar) (amp : Int) (w : World) (hM : MsAt w B A n a.m) (hB : B ≤ w.heap.size) (hF : FitA a) (hnc : n ≤ c) (hn2 : n2 ≤ 1000) (he : levE1 a n2 ≠ 0) :
    Calls Tryz.prog 9 #[.agg #[.slice A n c, .int .i64 a.lo, .int .i64 a.hi, .int .i64 a.cur, .int .i64 a.lim], .slice A2 n2 c2, .int .i64 amp] w (LvRes w (levE1 a n2) []) := by
  have HC := Lib.hid (fun W (hW : Below w.heap.size w W) => CheckArm_any B A n c a W (hM.below (hW.mono hB)) (by have := hW.size; omega) hF hnc)
  obtain ⟨b, hb⟩ : ∃ b, decide ((256 : Int) < (n2 : Int)) = b := ⟨_, rfl⟩
  unfold levE1 at he ⊢
  rw [hb] at he ⊢
  obtain ⟨ee, hee⟩ : ∃ ee, armE a = ee := ⟨_, rfl⟩
  rw [hee] at he HC ⊢
  obtain ⟨wv, hwv⟩ : ∃ wv, whenE b 5 = wv := ⟨_, rfl⟩
  rw [hwv] at he ⊢
  have HW := Lib.hid (fun W => awhen_any b 5 W)
  rw [hwv] at HW
  have HF := Lib.hid (fun W A (hr : Reads W (W.heap.size) 1 A 2 ([ee, wv].map (.int .i64))) c => afirst_any W.heap.size A 2 c [ee, wv] W hr (by unfold maxLen; decide))
  obtain ⟨fe, hfe⟩ : ∃ fe, firstE [ee, wv] = fe := ⟨_, rfl⟩
  rw [hfe] at he HF ⊢
  have hne : (fe != 0) = true := by simpa using he
  have HE := Lib.hid he
  clear hM hF hee hwv hfe he
  go_enter Tryz.func9, Tryz.ntmps9
  go_wp2_with fail
  refine (HC.out _ bl_).mono ?_
  rintro e w1 ⟨rfl, hb1⟩
  have HL1 := Lib.hid (show Below w.heap.size w w1 from bl_)
  clear hb1 HC
  go_wp2_with fail
  refine (HW.out _).mono ?_
  rintro e w2 ⟨rfl, rfl⟩
  go_wp2_with fail
  refine (HF.out _ (some ⟨w1.heap.size, 0, none⟩) (by simpa using Reads.new (size := 1) w1 #[.int .i64 ee, .int .i64 wv] 31 2 rfl) _).mono ?_
  rintro e w3 ⟨rfl, rfl⟩
  go_wp2_with fail
  go_ret2
  exact lev_res HE.out (HL1.out.trans (((Below.refl _ _).alloc (Nat.le_refl _) _).mono HL1.out.size))
set_option maxRecDepth 100000 in
set_option maxHeartbeats 4000000 in
theorem Levels_bad2 (B B2 : Nat) (A A2 : Option Addr) (n c n2 c2 : Nat) (a : Ar) (l : List Nat) (amp : Int) (w : World) (hM : MsAt w B A n a.m) (hB : B ≤ w.heap.size) (hF : FitA a) (hnc : n ≤ c) (hE : armE a = 0) (hO : Reads w B2 1 A2 n2 (l.map (Value.float .f32))) (hB2 : B2 ≤ w.heap.size) (hn2 : n2 ≤ 256) (he : levE2 l amp ≠ 0) :
    Calls Tryz.prog 9 #[.agg #[.slice A n c, .int .i64 a.lo, .int .i64 a.hi, .int .i64 a.cur, .int .i64 a.lim], .slice A2 n2 c2, .int .i64 amp] w (LvRes w (levE2 l amp) []) := by
  have hl2 := (enc_at hO).1
  have HC := Lib.hid (fun W (hW : Below w.heap.size w W) => CheckArm_any B A n c a W (hM.below (hW.mono hB)) (by have := hW.size; omega) hF hnc)
  rw [hE] at HC
  have HM1 := Lib.hid (fun W (hW : Below w.heap.size w W) => mapFE_all B2 A2 n2 c2 l W (hO.below (hW.mono hB2)) (by have := hW.size; omega) (by omega))
  have hq256 : decide ((256 : Int) < (n2 : Int)) = false := decide_eq_false (by omega)
  have HWi := Lib.hid (fun W => calls_below (awithin_any amp 1 16384 W))
  obtain ⟨fs, hfs⟩ : ∃ fs, firstE (l.map sampE) = fs := ⟨_, rfl⟩
  have HF1 := Lib.hid (fun W B' A c (hr : Reads W B' 1 A n2 ((l.map sampE).map (.int .i64))) => afirst_any B' A n2 c (l.map sampE) W hr (by unfold maxLen; omega))
  rw [hfs] at HF1
  unfold levE2 at he ⊢
  rw [hfs] at he ⊢
  obtain ⟨cw, hcw⟩ : ∃ cw, ckR amp 1 16384 = cw := ⟨_, rfl⟩
  rw [hcw] at HWi he ⊢
  have HX := Lib.hid he
  have hne : (firstE [fs, cw] != 0) = true := by simpa using he
  have e0 : (l.map fun x => Value.int .i64 (sampE x)).length = n2 := by rw [List.length_map, hl2]
  have e1 : (l.map fun x => Value.int .i64 (sampE x)) = (l.map sampE).map (.int .i64) := by rw [List.map_map]; rfl
  unfold MapRes at HM1
  rw [e0, e1] at HM1
  clear hM hO hF hE hfs hcw he e0 e1 hl2
  generalize l.map sampE = sl at *
  go_enter Tryz.func9, Tryz.ntmps9
  go_wp2_with fail
  refine (HC.out _ bl_).mono ?_
  rintro e w1 ⟨rfl, hb1⟩
  have hs1 := hb1.size
  simp at hs1
  have bP : Blk w1 (w.heap.size + 1) 3 #[.int .i64 amp] := bk_
  have hlow : Below w.heap.size w w1 := bl_
  have HL1 := Lib.hid hlow
  have cP := bP.cell
  have lP := bP.lt
  clear hb1 hlow HC
  go_wp2_with fail
  refine (awhen_any false 5 _).mono ?_
  rintro e w2 ⟨rfl, rfl⟩
  have hw5 : whenE false 5 = 0 := rfl
  rw [hw5]
  go_wp2_with fail
  refine (afirst_any (w1.heap.size + 1) _ 2 2 [0, 0] _ (by simpa using Reads.new (size := 1) w1 ((([0, 0] : List Int)).map (.int .i64)).toArray 31 2 rfl) (by unfold maxLen; decide)).mono ?_
  rintro e w3 ⟨rfl, rfl⟩
  have hf0 : firstE [0, 0] = 0 := rfl
  rw [hf0]
  go_upto_region 4 with fail
  refine wp_world ?_
  intro W4 hW4
  have hb4 : Below w1.heap.size w1 W4 := by rw [hW4]; exact bl_
  clear hW4 cP lP
  have bP4 := bP.kept hb4
  have HL4 := Lib.hid (HL1.out.trans (hb4.mono (by omega)))
  have cP := bP4.cell
  have lP := bP4.lt
  have hs4 := hb4.size
  clear bP hb4
  (refine wp_region_calm [] [0, 3] 6 (by kernel_rfl) rfl (by kernel_rfl) (by kernel_rfl) (by kernel_rfl) ?_; simp only [pickB, List.filterMap_cons, List.filterMap_nil, List.getElem?_toArray, List.getElem?_cons_zero, List.getElem?_cons_succ]; (repeat (first | ((first | (with_reducible refine quietL_plain rfl (fun K hK => ?_)) | (with_reducible refine quietL_want (by with_unfolding_all rfl) (fun K hK => ?_))); (apply Exists.intro; refine ⟨fun wx hx => ?_, ?_⟩; (· (have hcx := ifs_ex hx); simp [go_sem, *, ↓IntWalk.iteOmega] <;> (first | rfl | exact ⟨rfl, rfl⟩ | fail)); (simp only [Act.put, List.setIfInBounds_toArray, List.set_cons_zero, List.set_cons_succ]; refine hK _ ?_; clear hK K))) | ((with_reducible refine quietL_skip (by with_unfolding_all rfl) ?_); simp only [Act.put, List.setIfInBounds_toArray, List.set_cons_zero, List.set_cons_succ]))); refine quietL_nil ?_)
  (refine anyB_one (i := 1) (by kernel_rfl) rfl rfl ?_; intro w5 hb5 K hK; have hs5 := hb5.size; (try simp at hs5); go_wp2_with fail)
  refine (HM1.out _ (HL4.out.trans (hb5.mono HL4.out.size))).mono ?_
  rintro e w6 ⟨v6, rfl, hr6, hb6⟩
  obtain ⟨A6, c6, rfl, _, hc6, hrd6⟩ := own_form hr6
  have hs6 := hb6.size
  have HRd6 := Lib.hid hrd6
  clear hr6 hrd6
  (go_wp2; refine ⟨xs_, ?_⟩)
  (refine anyB_one (i := 2) (by kernel_rfl) rfl rfl ?_; intro w7 hb7 K hK; have hs7 := hb7.size; (try simp at hs7); go_wp2_with fail)
  refine (HF1.out w7 _ A6 c6 (HRd6.out.below hb7)).mono ?_
  rintro e w8 ⟨rfl, rfl⟩
  (go_wp2; refine ⟨xs_, ?_⟩)
  (refine anyB_quiet_at (by kernel_rfl) calm_panic xs_ 3 [4] _ _ (by kernel_rfl) (by decide +kernel) ?_; simp only [pickB, List.filterMap_cons, List.filterMap_nil, List.getElem?_toArray, List.getElem?_cons_zero, List.getElem?_cons_succ]; (repeat (first | ((first | (with_reducible refine quietL_plain rfl (fun K hK => ?_)) | (with_reducible refine quietL_want (by with_unfolding_all rfl) (fun K hK => ?_))); (apply Exists.intro; refine ⟨fun wx hx => ?_, ?_⟩; (· (have hcx := ifs_ex hx); simp [go_sem, *, ↓IntWalk.iteOmega] <;> (first | rfl | exact ⟨rfl, rfl⟩ | (with_reducible exact calls_B (HWi.out _)))); (simp only [Act.put, List.setIfInBounds_toArray, List.set_cons_zero, List.set_cons_succ]; refine hK _ ?_; clear hK K))) | ((with_reducible refine quietL_skip (by with_unfolding_all rfl) ?_); simp only [Act.put, List.setIfInBounds_toArray, List.set_cons_zero, List.set_cons_succ]))); refine quietL_nil ?_)
  (refine anyB_one (i := 5) (by kernel_rfl) rfl rfl ?_; intro w9 hb9 K hK; have hs9 := hb9.size; (try simp at hs9); go_wp2; refine ⟨xs_, ?_⟩)
  (refine anyB_one (i := 6) (by kernel_rfl) rfl rfl ?_; intro w10 hb10 K hK; obtain ⟨hc10, hf10⟩ := ifs_of hb10; have hs10 := hb10.size; (try simp at hs10); go_wp2_with fail; refine (afirst_any (w9.heap.size + 1) _ 2 2 [fs, cw] _ ((by simpa using Reads.new (size := 1) w9 (([fs, cw]).map (.int .i64)).toArray 31 2 rfl : Reads (w9.alloc (.cells (([fs, cw]).map (.int .i64)).toArray 31)) (w9.heap.size + 1) 1 (some ⟨w9.heap.size, 0, none⟩) 2 (([fs, cw]).map (.int .i64))).below (hb10.mono (by simp))) (by unfold maxLen; decide)).mono ?_; rintro e w10' ⟨rfl, rfl⟩; go_wp2; refine ⟨xs_, ?_⟩)
  (refine anyB_one (i := 7) (by kernel_rfl) rfl rfl ?_; intro w11 hb11 K hK; have hs11 := hb11.size; (try simp at hs11); go_wp2; refine ⟨xs_, ?_⟩)
  (refine anyB_end (by kernel_rfl) ?_; intro w12 hb12; have hs12 := hb12.size; (try simp at hs12); simp only [Calm])
  have hb412 : Below W4.heap.size W4 w12 := bl_
  have HL12 := Lib.hid (HL4.out.trans (hb412.mono HL4.out.size))
  clear cP lP bP4 hb412 hb5 hb6 hb7 hb9 hb10 hb11 hb12 hc10 hf10
  generalize firstE [fs, cw] = fe at *
  go_wp2_with fail
  go_ret2
  exact lev_res HX.out HL12.out
theorem Levels_uni (B B2 : Nat) (A A2 : Option Addr) (n c n2 c2 : Nat) (a : Ar) (l : List Nat) (amp : Int) (w : World) (hM : MsAt w B A n a.m) (hB : B ≤ w.heap.size) (hF : FitA a) (hnc : n ≤ c) (hO : Reads w B2 1 A2 n2 (l.map (Value.float .f32))) (hB2 : B2 ≤ w.heap.size) (hn2 : n2 ≤ 1000) :
    Calls Tryz.prog 9 #[.agg #[.slice A n c, .int .i64 a.lo, .int .i64 a.hi, .int .i64 a.cur, .int .i64 a.lim], .slice A2 n2 c2, .int .i64 amp] w (LvRes w (levE a n2 l amp) (if levE a n2 l amp = 0 then levs a l amp else [])) := by
  by_cases h1 : levE1 a n2 = 0
  · have e : levE a n2 l amp = levE2 l amp := if_pos h1
    have hE : armE a = 0 ∧ n2 ≤ 256 := by
      unfold levE1 at h1
      rw [firstE_cons, firstE_cons] at h1
      obtain ⟨g1, g2⟩ := or0_zero h1
      have g3 := whenE_zero (by decide) (or0_zero g2).1
      have := of_decide_eq_false g3
      exact ⟨g1, by omega⟩
    rw [e]
    by_cases h2 : levE2 l amp = 0
    · rw [if_pos h2, h2]
      have h3 := h2
      unfold levE2 at h3
      rw [firstE_cons, firstE_cons] at h3
      obtain ⟨g1, g2⟩ := or0_zero h3
      have g3 := ckR_zero (or0_zero g2).1
      refine (Levels_ok B B2 A A2 n c n2 c2 a l amp sampV w hM hB hF hnc hE.1 hO hB2 hE.2 (samps_ok g1) g3).mono ?_
      rintro e w' ⟨v, rfl, hr, hb⟩
      obtain ⟨A', c', rfl, _, _, hrd⟩ := own_form hr
      exact ⟨A', c', rfl, hrd, hb⟩
    · rw [if_neg h2]
      exact Levels_bad2 B B2 A A2 n c n2 c2 a l amp w hM hB hF hnc hE.1 hO hB2 hE.2 h2
  · have e : levE a n2 l amp = levE1 a n2 := if_neg h1
    rw [e, if_neg h1]
    exact Levels_bad1 B A A2 n c n2 c2 a amp w hM hB hF hnc hn2 h1
theorem mirA_len (a : Ar) : (mirA a).m.length = a.m.length := by unfold mirA; simp
set_option maxRecDepth 100000 in
theorem Mirrored_uni (B : Nat) (A : Option Addr) (n c : Nat) (a : Ar) (w : World) (hM : MsAt w B A n a.m) (hB : B ≤ w.heap.size) (hF : FitA a) (hnc : n ≤ c) :
    Calls Tryz.prog 12 #[.agg #[.slice A n c, .int .i64 a.lo, .int .i64 a.hi, .int .i64 a.cur, .int .i64 a.lim]] w (UniA w (resAr (armE a) (mirA a)) (armE a)) := by
  have hl := (md_at hM).1
  by_cases hE : armE a = 0
  · have e : resAr (armE a) (mirA a) = mirA a := if_pos hE
    rw [e, hE]
    refine (Mirrored_any B A n c a w hM hB hF hnc hE).mono ?_
    rintro e w' ⟨g, rfl, hk, hg, hb⟩
    have hlen : (mirA a).m.length = n := by rw [mirA_len, hl]
    unfold UniA
    rw [hlen]
    exact ⟨some ⟨g, 0, none⟩, n, rfl, (BlkArm.at hk hlen).more (show Blk _ _ _ _ from hk).lt, Nat.le_refl _, hb⟩
  · have e : resAr (armE a) (mirA a) = nilA := if_neg hE
    rw [e]
    have HC := Lib.hid (fun W (hW : Below w.heap.size w W) => CheckArm_any B A n c a W (hM.below (hW.mono hB)) (by have := hW.size; omega) hF hnc)
    clear e hM hF hl
    generalize armE a = ee at *
    have hne : (ee != 0) = true := by simpa using hE
    go_enter Tryz.func12, Tryz.ntmps12
    go_wp2_with fail
    refine (HC.out _ bl_).mono ?_
    rintro e w1 ⟨rfl, hb1⟩
    have bR : Blk w1 (w.heap.size + 1) 36 #[.slice none 0 0, .int .i64 0, .int .i64 0, .int .i64 0, .int .i64 0] := bk_
    have HL1 := Lib.hid (show Below w.heap.size w w1 from bl_)
    have cR := bR.cell
    have fR := bR.frozen
    have lR := bR.lt
    have HQ := Lib.hid (put5_blk (v0 := .slice none 0 0) (v1 := .int .i64 0) (v2 := .int .i64 0) (v3 := .int .i64 0) (v4 := .int .i64 0) bR)
    have HLo := Lib.hid (put5_low (b := w.heap.size + 1) (v0 := .slice none 0 0) (v1 := .int .i64 0) (v2 := .int .i64 0) (v3 := .int .i64 0) (v4 := .int .i64 0) HL1.out (by omega))
    clear hb1 bR
    go_wp2_with fail
    refine bodyPost_ret (v := .tuple #[.agg #[.slice none 0 0, .int .i64 0, .int .i64 0, .int .i64 0, .int .i64 0], .int .i64 ee]) ?_ rfl (nilA_uni HLo.out)
    have ck := HQ.out.cell
    simp [results, Tryz.results12, go_sem, ck]
end Go.Proofs.YtjanojmgnpfjeaaGreatDoor
