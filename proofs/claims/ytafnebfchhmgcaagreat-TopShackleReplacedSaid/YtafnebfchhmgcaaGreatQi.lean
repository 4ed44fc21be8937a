/- Joined texts: BI BJ BK BL BM. -/
import Derived.Test.YtafnebfchhmgcaaGreatQf
import Derived.Test.YtafnebfchhmgcaaGreatQg
import Derived.Deep.DeepCutAuto
import Derived.Deep.CutBlock
import Derived.Laws.EntriesVeiled
import Derived.Test.YtafnebfchhmgcaaGreatQd
import Derived.Test.YtafnebfchhmgcaaGreatQb
/- The comparison by which modules are ranked. -/
namespace Go.Proofs.YtafnebfchhmgcaaGreat
open Go.RowKit Go.Sort Go.Shelf
set_option linter.unusedSimpArgs false
set_option linter.unusedVariables false
attribute [local go_sem] cell_if frozen_if grow_cell
/-- The comparison's answer. -/
def rkI (c : Ck) (i k : Int) : Int := orL [chgC (c.ch i) (c.ch k) c.cur, cmpI (k2 c i) (k2 c k)]
set_option maxRecDepth 100000 in
set_option maxHeartbeats 4000000 in
theorem rkc_any (B : Nat) (A : Option Addr) (n c : Nat) (a : Ar) (i k : Nat) (cu : Int) (ga gc gr gs : Nat) (w : World) (hM : MsAt w B A n a.m) (hB : B ≤ w.heap.size) (hi : i < n) (hk : k < n) (hn : n ≤ 400)
    (h1 : Blk w ga 36 #[.slice A n c, .int .i64 a.lo, .int .i64 a.hi, .int .i64 a.cur, .int .i64 a.lim]) (h2 : Blk w gc 228 #[.func (.func 140) #[] #[]]) (h3 : Blk w gr 3 #[.int .i64 cu]) (h4 : Blk w gs 229 #[.func (.func 162) #[] #[]]) :
    Calls Tryz.prog 164 #[.int .i64 i, .int .i64 k, .pointer (some ⟨ga, 0, none⟩), .pointer (some ⟨gc, 0, none⟩), .pointer (some ⟨gr, 0, none⟩), .pointer (some ⟨gs, 0, none⟩)] w fun e w' => e = .returned (.int .i64 (rkI (ckA a cu) i k)) ∧ Below w.heap.size w w' := by
  obtain ⟨hl, hat⟩ := md_at hM
  have hil : i < a.m.length := by omega
  have hkl : k < a.m.length := by omega
  obtain ⟨b, o, eA, hbb, y0, y1, y2, y3⟩ := hat i hil
  obtain ⟨b', o', eA', _, z0, z1, z2, z3⟩ := hat k hkl
  rw [eA] at eA'
  cases eA'
  have hbw : b < w.heap.size := by omega
  have e1 : (ckA a cu).ch (i : Int) = (a.m[i]).q := by show ((mdAt a i).map Md.q).getD 0 = _; unfold mdAt; rw [Int.toNat_natCast, List.getElem?_eq_getElem hil]; rfl
  have e2 : (ckA a cu).ch (k : Int) = (a.m[k]).q := by show ((mdAt a k).map Md.q).getD 0 = _; unfold mdAt; rw [Int.toNat_natCast, List.getElem?_eq_getElem hkl]; rfl
  have e3 : (ckA a cu).on (i : Int) = (a.m[i]).on := by show ((mdAt a i).map Md.on).getD false = _; unfold mdAt; rw [Int.toNat_natCast, List.getElem?_eq_getElem hil]; rfl
  have e4 : (ckA a cu).on (k : Int) = (a.m[k]).on := by show ((mdAt a k).map Md.on).getD false = _; unfold mdAt; rw [Int.toNat_natCast, List.getElem?_eq_getElem hkl]; rfl
  have HV : Hid (rkI (ckA a cu) i k = orL [chgC (a.m[i]).q (a.m[k]).q cu, cmpI (onN a.m[i]) (onN a.m[k])]) := by
    unfold rkI k2
    rw [e1, e2, e3, e4]
    exact Lib.hid rfl
  rw [HV.out]
  subst eA
  clear hl hat hM HV e1 e2 e3 e4
  generalize a.m[i] = x at *
  generalize a.m[k] = z at *
  obtain ⟨xn, xq, xo, xb⟩ := x
  obtain ⟨zn, zq, zo, zb⟩ := z
  dsimp only at y0 y1 y2 y3 z0 z1 z2 z3
  obtain ⟨r1, hr1⟩ : ∃ r1, chgC xq zq cu = r1 := ⟨_, rfl⟩
  obtain ⟨r2, hr2⟩ : ∃ r2, cmpI (onN ⟨xn, xq, xo, xb⟩) (onN ⟨zn, zq, zo, zb⟩) = r2 := ⟨_, rfl⟩
  have HC := fun W => charge_any ⟨xn, xq, xo, xb⟩ ⟨zn, zq, zo, zb⟩ cu W
  have HK := fun W => Compare_any (onN ⟨xn, xq, xo, xb⟩) (onN ⟨zn, zq, zo, zb⟩) W
  have HX := fun W => mon_any ⟨xn, xq, xo, xb⟩ W
  have HZ := fun W => mon_any ⟨zn, zq, zo, zb⟩ W
  dsimp only at HC HX HZ
  rw [hr1] at HC
  rw [hr2] at HK
  rw [hr1, hr2]
  clear hr1 hr2
  generalize onN ⟨xn, xq, xo, xb⟩ = q1 at *
  generalize onN ⟨zn, zq, zo, zb⟩ = q2 at *
  have HC' := Lib.hid HC
  have HK' := Lib.hid HK
  have HX' := Lib.hid HX
  have HZ' := Lib.hid HZ
  clear HC HK HX HZ
  have cA := h1.cell
  have lA := h1.lt
  have cC := h2.cell
  have lC := h2.lt
  have cR := h3.cell
  have lR := h3.lt
  have cS := h4.cell
  have lS := h4.lt
  go_enter Tryz.func164, Tryz.ntmps164
  go_upto_region 1 with fail
  go_cut [9, 10] (fun s9 s10 wx => ∃ bx bz : Nat, s9 = .pointer (some ⟨bx, 0, none⟩) ∧ s10 = .pointer (some ⟨bz, 0, none⟩) ∧ Blk wx bx 115 #[.string xn, .int .i64 xq, .bool xo, .bool xb] ∧ Blk wx bz 115 #[.string zn, .int .i64 zq, .bool zo, .bool zb] ∧ Below w.heap.size w wx)
  case first =>
    (refine wp_region_calm [] [0, 1, 2, 3, 4, 5, 6, 7, 8, 9] 4 (by kernel_rfl) rfl (by kernel_rfl) (by kernel_rfl) (by kernel_rfl) ?_; simp only [pickB, List.filterMap_cons, List.filterMap_nil, List.getElem?_toArray, List.getElem?_cons_zero, List.getElem?_cons_succ]; (repeat (first | ((first | (with_reducible refine quietL_plain rfl (fun K hK => ?_)) | (with_reducible refine quietL_want (by with_unfolding_all rfl) (fun K hK => ?_))); (apply Exists.intro; refine ⟨fun wx hx => ?_, ?_⟩; (· (have hcx := ifs_ex hx); simp [go_sem, *, ↓IntWalk.iteOmega] <;> (first | rfl | exact ⟨rfl, rfl⟩ | fail)); (simp only [Act.put, List.setIfInBounds_toArray, List.set_cons_zero, List.set_cons_succ]; refine hK _ ?_; clear hK K))) | ((with_reducible refine quietL_skip (by with_unfolding_all rfl) ?_); simp only [Act.put, List.setIfInBounds_toArray, List.set_cons_zero, List.set_cons_succ]))); refine quietL_nil ?_)
    refine anyB_two (i := 10) (j := 11) (by kernel_rfl) rfl rfl rfl rfl ?_ ?_
    · intro w2 hb2 K hK
      obtain ⟨hc2, hf2⟩ := ifs_of hb2; have hs2 := hb2.size; (try simp at hs2)
      go_wp2
      refine ⟨xs_, ?_⟩
      (refine anyB_one (i := 11) (by kernel_rfl) rfl rfl ?_; intro w3 hb3 K hK; obtain ⟨hc3, hf3⟩ := ifs_of hb3; have hs3 := hb3.size; (try simp at hs3); go_wp2; refine ⟨xs_, ?_⟩)
      (refine anyB_one (i := 12) (by kernel_rfl) rfl rfl ?_; intro w4 hb4 K hK; obtain ⟨hc4, hf4⟩ := ifs_of hb4; have hs4 := hb4.size; (try simp at hs4); go_wp2; refine ⟨xs_, ?_⟩)
      (refine anyB_one (i := 13) (by kernel_rfl) rfl rfl ?_; intro w5 hb5 K hK; obtain ⟨hc5, hf5⟩ := ifs_of hb5; have hs5 := hb5.size; (try simp at hs5); go_wp2; refine ⟨xs_, ?_⟩)
      (refine anyB_end (by kernel_rfl) ?_; intro w6 hb6; obtain ⟨hc6, hf6⟩ := ifs_of hb6; have hs6 := hb6.size; (try simp at hs6); simp only [Calm])
      have hne : w2.heap.size ≠ w3.heap.size := by have := hb3.size; simp at this; omega
      have B1 := ((((Blk.new w2 115 #[.string ⟨#[]⟩, .int .i64 0, .bool false, .bool false]).kept hb3).alloc (.cells #[.string ⟨#[]⟩, .int .i64 0, .bool false, .bool false] 115)).kept hb4)
      have B2 := (Blk.new w3 115 #[.string ⟨#[]⟩, .int .i64 0, .bool false, .bool false]).kept hb4
      have C1 := ((((B1.set_ 0 (.string xn)).set_ 1 (.int .i64 xq)).set_ 2 (.bool xo)).set_ 3 (.bool xb)).kept hb5
      have C2 := ((((B2.far (p := ⟨w2.heap.size, 0, none⟩) (show w3.heap.size ≠ w2.heap.size by first | exact hne | exact hne.symm) (.string xn)).far (p := ⟨w2.heap.size, 1, none⟩) (show w3.heap.size ≠ w2.heap.size by first | exact hne | exact hne.symm) (.int .i64 xq)).far (p := ⟨w2.heap.size, 2, none⟩) (show w3.heap.size ≠ w2.heap.size by first | exact hne | exact hne.symm) (.bool xo)).far (p := ⟨w2.heap.size, 3, none⟩) (show w3.heap.size ≠ w2.heap.size by first | exact hne | exact hne.symm) (.bool xb)).kept hb5
      have D2 := ((((C2.set_ 0 (.string zn)).set_ 1 (.int .i64 zq)).set_ 2 (.bool zo)).set_ 3 (.bool zb)).kept hb6
      have D1 := ((((C1.far (p := ⟨w3.heap.size, 0, none⟩) (show w2.heap.size ≠ w3.heap.size by first | exact hne | exact hne.symm) (.string zn)).far (p := ⟨w3.heap.size, 1, none⟩) (show w2.heap.size ≠ w3.heap.size by first | exact hne | exact hne.symm) (.int .i64 zq)).far (p := ⟨w3.heap.size, 2, none⟩) (show w2.heap.size ≠ w3.heap.size by first | exact hne | exact hne.symm) (.bool zo)).far (p := ⟨w3.heap.size, 3, none⟩) (show w2.heap.size ≠ w3.heap.size by first | exact hne | exact hne.symm) (.bool zb)).kept hb6
      have hlow : Below w.heap.size w w6 := bl_
      go_wp2_with fail
      go_meet
      case rel => exact ⟨_, _, rfl, rfl, D1, D2, hlow⟩
    · intro w2 hb2 K hK
      obtain ⟨hc2, hf2⟩ := ifs_of hb2; have hs2 := hb2.size; (try simp at hs2)
      go_wp2
      refine ⟨xs_, ?_⟩
      (refine anyB_one (i := 10) (by kernel_rfl) rfl rfl ?_; intro w3 hb3 K hK; obtain ⟨hc3, hf3⟩ := ifs_of hb3; have hs3 := hb3.size; (try simp at hs3); go_wp2; refine ⟨xs_, ?_⟩)
      (refine anyB_one (i := 12) (by kernel_rfl) rfl rfl ?_; intro w4 hb4 K hK; obtain ⟨hc4, hf4⟩ := ifs_of hb4; have hs4 := hb4.size; (try simp at hs4); go_wp2; refine ⟨xs_, ?_⟩)
      (refine anyB_one (i := 13) (by kernel_rfl) rfl rfl ?_; intro w5 hb5 K hK; obtain ⟨hc5, hf5⟩ := ifs_of hb5; have hs5 := hb5.size; (try simp at hs5); go_wp2; refine ⟨xs_, ?_⟩)
      (refine anyB_end (by kernel_rfl) ?_; intro w6 hb6; obtain ⟨hc6, hf6⟩ := ifs_of hb6; have hs6 := hb6.size; (try simp at hs6); simp only [Calm])
      have hne : w2.heap.size ≠ w3.heap.size := by have := hb3.size; simp at this; omega
      have B1 := ((((Blk.new w2 115 #[.string ⟨#[]⟩, .int .i64 0, .bool false, .bool false]).kept hb3).alloc (.cells #[.string ⟨#[]⟩, .int .i64 0, .bool false, .bool false] 115)).kept hb4)
      have B2 := (Blk.new w3 115 #[.string ⟨#[]⟩, .int .i64 0, .bool false, .bool false]).kept hb4
      have C2 := ((((B2.set_ 0 (.string xn)).set_ 1 (.int .i64 xq)).set_ 2 (.bool xo)).set_ 3 (.bool xb)).kept hb5
      have C1 := ((((B1.far (p := ⟨w3.heap.size, 0, none⟩) (show w2.heap.size ≠ w3.heap.size by first | exact hne | exact hne.symm) (.string xn)).far (p := ⟨w3.heap.size, 1, none⟩) (show w2.heap.size ≠ w3.heap.size by first | exact hne | exact hne.symm) (.int .i64 xq)).far (p := ⟨w3.heap.size, 2, none⟩) (show w2.heap.size ≠ w3.heap.size by first | exact hne | exact hne.symm) (.bool xo)).far (p := ⟨w3.heap.size, 3, none⟩) (show w2.heap.size ≠ w3.heap.size by first | exact hne | exact hne.symm) (.bool xb)).kept hb5
      have D1 := ((((C1.set_ 0 (.string zn)).set_ 1 (.int .i64 zq)).set_ 2 (.bool zo)).set_ 3 (.bool zb)).kept hb6
      have D2 := ((((C2.far (p := ⟨w2.heap.size, 0, none⟩) (show w3.heap.size ≠ w2.heap.size by first | exact hne | exact hne.symm) (.string zn)).far (p := ⟨w2.heap.size, 1, none⟩) (show w3.heap.size ≠ w2.heap.size by first | exact hne | exact hne.symm) (.int .i64 zq)).far (p := ⟨w2.heap.size, 2, none⟩) (show w3.heap.size ≠ w2.heap.size by first | exact hne | exact hne.symm) (.bool zo)).far (p := ⟨w2.heap.size, 3, none⟩) (show w3.heap.size ≠ w2.heap.size by first | exact hne | exact hne.symm) (.bool zb)).kept hb6
      have hlow : Below w.heap.size w w6 := bl_
      go_wp2_with fail
      go_meet
      case rel => exact ⟨_, _, rfl, rfl, D2, D1, hlow⟩
  rename World => w7
  obtain ⟨bx, bz, rfl, rfl, g1, g2, g3⟩ := hcut
  have c1 := g1.cell
  have l1 := g1.lt
  have c2 := g2.cell
  have l2 := g2.lt
  clear y0 y1 y2 y3 z0 z1 z2 z3
  have m2 : Blk w7 gc 228 #[.func (.func 140) #[] #[]] := bk_
  have m3 : Blk w7 gr 3 #[.int .i64 cu] := bk_
  have m4 : Blk w7 gs 229 #[.func (.func 162) #[] #[]] := bk_
  clear cA lA cC lC cR lR cS lS h1 h2 h3 h4
  have cC := m2.cell
  have lC := m2.lt
  have cR := m3.cell
  have lR := m3.lt
  have cS := m4.cell
  have lS := m4.lt
  go_wp2_with fail
  (refine wp_region_calm [] [0, 1, 2, 3, 5, 6, 8, 9] 7 (by kernel_rfl) rfl (by kernel_rfl) (by kernel_rfl) (by kernel_rfl) ?_; simp only [pickB, List.filterMap_cons, List.filterMap_nil, List.getElem?_toArray, List.getElem?_cons_zero, List.getElem?_cons_succ]; (repeat (first | ((first | (with_reducible refine quietL_plain rfl (fun K hK => ?_)) | (with_reducible refine quietL_want (by with_unfolding_all rfl) (fun K hK => ?_))); (apply Exists.intro; refine ⟨fun wx hx => ?_, ?_⟩; (· (have hcx := ifs_ex hx); simp [go_sem, *, ↓IntWalk.iteOmega] <;> (first | rfl | exact ⟨rfl, rfl⟩ | fail)); (simp only [Act.put, List.setIfInBounds_toArray, List.set_cons_zero, List.set_cons_succ]; refine hK _ ?_; clear hK K))) | ((with_reducible refine quietL_skip (by with_unfolding_all rfl) ?_); simp only [Act.put, List.setIfInBounds_toArray, List.set_cons_zero, List.set_cons_succ]))); refine quietL_nil ?_)
  (refine anyB_one (i := 4) (by kernel_rfl) rfl rfl ?_; intro w8 hb8 K hK; have hs8 := hb8.size; (try simp at hs8); go_wp2_with fail)
  refine (HC'.out _).mono ?_
  rintro e w9 ⟨rfl, hb9⟩
  have hs9 := hb9.size
  (go_wp2; refine ⟨xs_, ?_⟩)
  (refine anyB_one (i := 7) (by kernel_rfl) rfl rfl ?_; intro w10 hb10 K hK; have hs10 := hb10.size; (try simp at hs10); go_wp2_with fail)
  refine (HX'.out _).mono ?_
  rintro e w11 ⟨rfl, hb11⟩
  have hs11 := hb11.size
  (go_wp2; refine ⟨xs_, ?_⟩)
  (refine anyB_one (i := 10) (by kernel_rfl) rfl rfl ?_; intro w12 hb12 K hK; have hs12 := hb12.size; (try simp at hs12); go_wp2_with fail)
  refine (HZ'.out _).mono ?_
  rintro e w13 ⟨rfl, hb13⟩
  have hs13 := hb13.size
  (go_wp2; refine ⟨xs_, ?_⟩)
  (refine anyB_one (i := 11) (by kernel_rfl) rfl rfl ?_; intro w14 hb14 K hK; have hs14 := hb14.size; (try simp at hs14); go_wp2_with fail)
  refine (HK'.out _).mono ?_
  rintro e w15 ⟨rfl, rfl⟩
  (go_wp2; refine ⟨xs_, ?_⟩)
  (refine anyB_one (i := 12) (by kernel_rfl) rfl rfl ?_; intro w16 hb16 K hK; have hs16 := hb16.size; (try simp at hs16); go_wp2; refine ⟨xs_, ?_⟩)
  (refine anyB_one (i := 13) (by kernel_rfl) rfl rfl ?_; intro w17 hb17 K hK; have hs17 := hb17.size; (try simp at hs17); go_wp2_with fail)
  have bS : Blk w17 w16.heap.size 3 #[.int .i64 r1, .int .i64 r2] := (Blk.new w16 3 #[.int .i64 r1, .int .i64 r2]).kept hb17
  have RS : Reads w17 (w16.heap.size + 1) 1 (some ⟨w16.heap.size, 0, none⟩) 2 ([r1, r2].map (.int .i64)) := Reads.blk bS rfl
  refine (cOr_any (w16.heap.size + 1) _ 2 2 [r1, r2] w17 RS hs17 (by omega)).mono ?_
  clear RS bS
  rintro e w18 ⟨rfl, hb18⟩
  have hs18 := hb18.size
  (go_wp2; refine ⟨xs_, ?_⟩)
  (refine anyB_quiet_at (by kernel_rfl) calm_panic xs_ 0 [14] _ _ (by kernel_rfl) (by decide +kernel) ?_; simp only [pickB, List.filterMap_cons, List.filterMap_nil, List.getElem?_toArray, List.getElem?_cons_zero, List.getElem?_cons_succ]; (repeat (first | ((first | (with_reducible refine quietL_plain rfl (fun K hK => ?_)) | (with_reducible refine quietL_want (by with_unfolding_all rfl) (fun K hK => ?_))); (apply Exists.intro; refine ⟨fun wx hx => ?_, ?_⟩; (· (have hcx := ifs_ex hx); simp [go_sem, *, ↓IntWalk.iteOmega] <;> (first | rfl | exact ⟨rfl, rfl⟩ | fail)); (simp only [Act.put, List.setIfInBounds_toArray, List.set_cons_zero, List.set_cons_succ]; refine hK _ ?_; clear hK K))) | ((with_reducible refine quietL_skip (by with_unfolding_all rfl) ?_); simp only [Act.put, List.setIfInBounds_toArray, List.set_cons_zero, List.set_cons_succ]))); refine quietL_nil ?_)
  (refine anyB_end (by kernel_rfl) ?_; intro w19 hb19; have hs19 := hb19.size; (try simp at hs19); simp only [Calm])
  go_wp2_with fail
  go_ret
  have hlow : Below w7.heap.size w7 w19 := bl_
  exact ⟨rfl, g3.trans (hlow.mono g3.size)⟩
end Go.Proofs.YtafnebfchhmgcaaGreat
/- What the comparison of ranked says, in plain words. -/
namespace Go.Proofs.YtafnebfchhmgcaaGreat
open Go.RowKit Go.Sort Go.Shelf
theorem cmp_neg (x z : Int) : cmpI x z < 0 ↔ x < z := by
  unfold cmpI
  split
  · simp; assumption
  · split <;> simp <;> omega
theorem cmp_zero (x z : Int) : cmpI x z = 0 ↔ x = z := by
  unfold cmpI
  split
  · simp; omega
  · split <;> simp <;> omega
theorem chg_neg (c : Ck) (i k : Int) : chgC (c.ch i) (c.ch k) c.cur < 0 ↔ k1 c i < k1 c k := by
  unfold chgC k1
  by_cases h : c.cur < 0
  · rw [if_pos h, if_neg (by omega), if_neg (by omega), cmp_neg]; omega
  · rw [if_neg h, if_pos (by omega), if_pos (by omega), cmp_neg]
theorem chg_zero (c : Ck) (i k : Int) : chgC (c.ch i) (c.ch k) c.cur = 0 ↔ k1 c i = k1 c k := by
  unfold chgC k1
  by_cases h : c.cur < 0
  · rw [if_pos h, if_neg (by omega), if_neg (by omega), cmp_zero]; omega
  · rw [if_neg h, if_pos (by omega), if_pos (by omega), cmp_zero]
theorem rk_neg (c : Ck) (x y : Int) : rkI c x y < 0 ↔ k1 c x < k1 c y ∨ (k1 c x = k1 c y ∧ k2 c x < k2 c y) := by
  have h1 := chg_neg c x y
  have h2 := chg_zero c x y
  have h3 := cmp_neg (k2 c x) (k2 c y)
  have h4 := cmp_zero (k2 c x) (k2 c y)
  unfold rkI
  generalize chgC (c.ch x) (c.ch y) c.cur = p at *
  generalize cmpI (k2 c x) (k2 c y) = q at *
  show (if p = 0 then (if q = 0 then 0 else q) else p) < 0 ↔ _
  split
  · split <;> omega
  · omega
/-- A later index comes ahead of an earlier one if the comparison says so. -/
theorem rk_bet {c : Ck} {x y : Int} (h : y < x) : rkI c x y < 0 ↔ betB c x y = true := by
  rw [bet_later h, rk_neg]
end Go.Proofs.YtafnebfchhmgcaaGreat
/- Library: sorting by insertion, with a comparison that reads. -/
namespace Go.Proofs.YtafnebfchhmgcaaGreat
open Go.RowKit Go.Sort Go.Shelf
set_option linter.unusedSimpArgs false
set_option linter.unusedVariables false
attribute [local go_sem] cell_if frozen_if grow_cell
theorem gb_below {w a b : World} {r : Option Nat} (h : w.grownBy a r) (k : Below a.heap.size a b) : w.grownBy b r :=
  ⟨k.os.trans h.os, k.tape.trans h.tape, k.output.trans h.output, Nat.le_trans h.size k.size, fun i hi hr => (k.block i (Nat.lt_of_lt_of_le hi h.size)).trans (h.block i hi hr)⟩
theorem gb_trans {w a b : World} {r : Option Nat} (h : w.grownBy a r) (k : a.grownBy b r) : w.grownBy b r :=
  ⟨k.os.trans h.os, k.tape.trans h.tape, k.output.trans h.output, Nat.le_trans h.size k.size, fun i hi hr => (k.block i (Nat.lt_of_lt_of_le hi h.size) hr).trans (h.block i hi hr)⟩
section
variable {P : Program} {md : Region.Mode} {ops : Array Oper} {Q : Exit → Act → World → Prop} {X : List Nat} {w0 : World}
theorem anyB_one_want {fuel i : Nat} {listed : Array Bool} {a : Act} {w1 : World} {o : Oper} (hr : Region.ready md ops listed = [i]) (ho : ops[i]? = some o) (hg : Region.wanted o (yielded ops a.tmps) = true)
    (h : ∀ w, Below w1.heap.size w1 w → ∀ K : Act → World → Prop, (∀ a' w', (Ex X w0 w' ∧ anyB P md ops Q X w0 fuel (listed.setIfInBounds i true) a' w') → K a' w') → o.wp P a w K Q) : anyB P md ops Q X w0 (fuel + 1) listed a w1 := by
  refine ⟨fun h0 => (by rw [hr] at h0; cases h0), fun j hj w hw => ?_⟩
  rw [hr] at hj
  obtain rfl : j = i := by simpa using hj
  unfold wpOp
  simp only [ho, hg, if_true]
  exact .inl (h w hw _ (fun _ _ hh => hh))
end
/-- The row with one element on its way down. -/
def wayL (R : List Int) (x : Int) (j : Nat) (rest : List Int) : List Int := R.take j ++ x :: R.drop j ++ rest
def intV (l : List Int) : List Value := l.map (.int .i64)
theorem way_at {W : World} {base blk n cap jp : Nat} {R rest : List Int} {x : Int} (h : Own W base 3 1 blk n cap (intV (wayL R x (jp + 1) rest))) (hj : jp < R.length) :
    W.cell? ⟨blk, jp + 1, none⟩ = some (.int .i64 x) ∧ W.cell? ⟨blk, jp, none⟩ = some (.int .i64 R[jp]) := by
  have hl : (R.take (jp + 1)).length = jp + 1 := by rw [List.length_take]; omega
  have e1 : (wayL R x (jp + 1) rest)[jp + 1]? = some x := by
    unfold wayL
    rw [List.append_assoc, List.getElem?_append_right (by omega), hl, Nat.sub_self]
    rfl
  have e2 : (wayL R x (jp + 1) rest)[jp]? = some R[jp] := by
    unfold wayL
    rw [List.append_assoc, List.getElem?_append_left (by omega), List.getElem?_take, if_pos (by omega), List.getElem?_eq_getElem hj]
  have g1 := h.cells (g := blk) rfl (jp + 1) (.int .i64 x) (by unfold intV; rw [List.getElem?_map, e1]; rfl)
  have g2 := h.cells (g := blk) rfl jp (.int .i64 R[jp]) (by unfold intV; rw [List.getElem?_map, e2]; rfl)
  rw [Addr.add_lit, Nat.zero_add] at g1 g2
  exact ⟨g1, g2⟩
theorem way_swap {R rest : List Int} {x : Int} {jp : Nat} (hj : jp < R.length) : ((intV (wayL R x (jp + 1) rest)).set (jp + 1) (.int .i64 R[jp])).set jp (.int .i64 x) = intV (wayL R x jp rest) := by
  unfold intV wayL
  rw [← ins_swap hj, List.map_set, List.map_set]
set_option maxRecDepth 100000 in
set_option maxHeartbeats 4000000 in
theorem insS_any (ck : Ck) (l : List Int) (base blk cap g : Nat) (cb : Array Value) (w : World) (hO : Own w base 3 1 blk l.length cap (intV l)) (hA : l.Pairwise (· < ·)) (hn : l.length ≤ 400)
    (eg : Enters Tryz.prog g) (hC : ∀ W, w.grownBy W (some blk) → ∀ x ∈ l, ∀ y ∈ l, Calls Tryz.prog g (#[.int .i64 x, .int .i64 y] ++ cb) W fun e w' => e = .returned (.int .i64 (rkI ck x y)) ∧ Below W.heap.size W w') :
    Calls Tryz.prog 211 #[.slice (some ⟨blk, 0, none⟩) l.length cap, .int .i64 0, .int .i64 l.length, .func (.func g) #[] cb] w fun e w' => e = .returned (.tuple #[]) ∧ ∃ R : List Int, R.Perm l ∧ R.Pairwise (leB ck) ∧ Own w' base 3 1 blk l.length cap (intV R) ∧ w.grownBy w' (some blk) := by
  have HO := Lib.hid hO
  have HC := Lib.hid hC
  have HA := Lib.hid hA
  clear hO hC hA
  unfold Enters at eg
  go_enter Tryz.func211, Tryz.ntmps211
  go_wp2_with fail
  go_loopw [8] (fun i wr => ∃ (k : Nat) (R : List Int), i = .int .i64 k ∧ 1 ≤ k ∧ k ≤ l.length + 1 ∧ Hid (R.Perm (l.take k)) ∧ Hid (R.Pairwise (leB ck)) ∧ Hid (Own wr base 3 1 blk l.length cap (intV (R ++ l.drop k))) ∧ Hid (w.grownBy wr (some blk))) (fun i _ => l.length + 1 - (intOf i).toNat)
  case atStart =>
    refine ⟨1, l.take 1, by go_num, Nat.le_refl _, by omega, Lib.hid (List.Perm.refl _), ?_, ?_, Lib.hid ⟨rfl, rfl, rfl, Nat.le_refl _, fun _ _ _ => rfl⟩⟩
    · refine Lib.hid ?_
      cases l with
      | nil => simp
      | cons y r => simp
    · rw [List.take_append_drop]; exact HO
  case round =>
    obtain ⟨k, R, rfl, h1, h2, HP, HS, HR, HG⟩ := hrel
    by_cases hlt : k < l.length
    · go_wp2_with fail
      have hRl : R.length = k := by rw [HP.out.length_eq, List.length_take]; omega
      obtain ⟨x, hx⟩ : ∃ x, l[k]'hlt = x := ⟨_, rfl⟩
      have HX := Lib.hid hx
      clear hx
      have FIN : Hid (∀ (W : World) (j : Nat), j ≤ k → (∀ y ∈ (R.take j).getLast?, leB ck y x) → Hid (∀ y ∈ R.drop j, betB ck x y = true) → Hid (Own W base 3 1 blk l.length cap (intV (wayL R x j (l.drop (k + 1))))) →
          ∃ R', Hid (R'.Perm (l.take (k + 1))) ∧ Hid (R'.Pairwise (leB ck)) ∧ Hid (Own W base 3 1 blk l.length cap (intV (R' ++ l.drop (k + 1))))) := by
        refine Lib.hid fun W j hj hle hB hO => ⟨R.take j ++ x :: R.drop j, Lib.hid ?_, Lib.hid (ins_sorted HS.out hB.out hle), hO⟩
        rw [List.take_succ_eq_append_getElem hlt, HX.out]
        exact ins_perm HP.out
      go_loopw [9] (fun s wr2 => ∃ j : Nat, s = .int .i64 j ∧ j ≤ k ∧ Hid (∀ y ∈ R.drop j, betB ck x y = true) ∧ Hid (Own wr2 base 3 1 blk l.length cap (intV (wayL R x j (l.drop (k + 1))))) ∧ Hid (w.grownBy wr2 (some blk))) (fun s _ => (intOf s).toNat)
      case atStart =>
        refine ⟨k, rfl, Nat.le_refl _, Lib.hid (fun y hy => by rw [List.drop_eq_nil_of_le (by omega)] at hy; cases hy), ?_, HG⟩
        have e : wayL R x k (l.drop (k + 1)) = R ++ l.drop k := by
          unfold wayL
          rw [List.take_of_length_le (by omega), List.drop_eq_nil_of_le (Nat.le_of_eq hRl), List.drop_eq_getElem_cons hlt, HX.out]
          simp
        rw [e]; exact HR
      case round =>
        obtain ⟨j, rfl, hj, HB, HR2, HG2⟩ := hrel
        by_cases hj0 : j = 0
        · subst hj0
          go_wp2_with fail
          (refine wp_region_calm [] [0, 1, 2, 3, 4, 5, 6, 7, 8, 9, 10, 11, 12, 13, 14, 15, 16] 0 (by kernel_rfl) rfl (by kernel_rfl) (by kernel_rfl) (by kernel_rfl) ?_; simp only [pickB, List.filterMap_cons, List.filterMap_nil, List.getElem?_toArray, List.getElem?_cons_zero, List.getElem?_cons_succ]; (repeat (first | ((first | (with_reducible refine quietL_plain rfl (fun K hK => ?_)) | (with_reducible refine quietL_want (by with_unfolding_all rfl) (fun K hK => ?_))); (apply Exists.intro; refine ⟨fun wx hx => ?_, ?_⟩; (· (have hcx := ifs_ex hx); simp [go_sem, *, ↓IntWalk.iteOmega] <;> (first | rfl | exact ⟨rfl, rfl⟩ | fail)); (simp only [Act.put, List.setIfInBounds_toArray, List.set_cons_zero, List.set_cons_succ]; refine hK _ ?_; clear hK K))) | ((with_reducible refine quietL_skip (by with_unfolding_all rfl) ?_); simp only [Act.put, List.setIfInBounds_toArray, List.set_cons_zero, List.set_cons_succ]))); refine quietL_nil ?_)
          (refine anyB_end (by kernel_rfl) ?_; intro w3 hb3; obtain ⟨hc3, hf3⟩ := ifs_of hb3; have hs3 := hb3.size; (try simp at hs3); simp only [Calm])
          go_wp2_with fail
          obtain ⟨R', q1, q2, q3⟩ := FIN.out w3 0 (Nat.zero_le _) (fun y hy => by simp at hy) HB (Lib.hid (HR2.out.kept hb3))
          have q4 := Lib.hid (gb_below HG2.out hb3)
          exact ⟨⟨k + 1, R', by go_num, by omega, by omega, q1, q2, q3, q4⟩, by simp [intOf]; omega⟩
        · obtain ⟨jp, rfl⟩ : ∃ jp, j = jp + 1 := ⟨j - 1, by omega⟩
          have hjR : jp < R.length := by omega
          obtain ⟨y, hy⟩ : ∃ y, R[jp]'hjR = y := ⟨_, rfl⟩
          have HY := Lib.hid hy
          clear hy
          have hyl : y ∈ l := by
            rw [← HY.out]
            exact List.mem_of_mem_take (HP.out.mem_iff.1 (List.getElem_mem hjR))
          have hxl : x ∈ l := by rw [← HX.out]; exact List.getElem_mem hlt
          have hyx : y < x := by
            have h3 : y ∈ l.take k := by rw [← HY.out]; exact HP.out.mem_iff.1 (List.getElem_mem hjR)
            have h4 := HA.out
            rw [← List.take_append_drop k l] at h4
            refine (List.pairwise_append.1 h4).2.2 y h3 x ?_
            rw [List.drop_eq_getElem_cons hlt, HX.out]
            exact List.mem_cons_self
          obtain ⟨z1, z0⟩ := way_at HR2.out hjR
          rw [HY.out] at z0
          have lB : blk < wr.heap.size := (Own.lt HR2.out).2
          have hw : IntKind.i64.wrap (jp : Int) = (jp : Int) := by rw [IntKind.wrap_i64]; omega
          go_wp2_with fail
          (refine wp_region_calm [] [0, 1, 2, 3, 4, 5, 6, 7, 8, 9, 10, 11, 12, 13] 3 (by kernel_rfl) rfl (by kernel_rfl) (by kernel_rfl) (by kernel_rfl) ?_; simp only [pickB, List.filterMap_cons, List.filterMap_nil, List.getElem?_toArray, List.getElem?_cons_zero, List.getElem?_cons_succ]; (repeat (first | ((first | (with_reducible refine quietL_plain rfl (fun K hK => ?_)) | (with_reducible refine quietL_want (by with_unfolding_all rfl) (fun K hK => ?_))); (apply Exists.intro; refine ⟨fun wx hx => ?_, ?_⟩; (· (have hcx := ifs_ex hx); simp [go_sem, *, ↓IntWalk.iteOmega] <;> (first | rfl | exact ⟨rfl, rfl⟩ | fail)); (simp only [Act.put, List.setIfInBounds_toArray, List.set_cons_zero, List.set_cons_succ]; refine hK _ ?_; clear hK K))) | ((with_reducible refine quietL_skip (by with_unfolding_all rfl) ?_); simp only [Act.put, List.setIfInBounds_toArray, List.set_cons_zero, List.set_cons_succ]))); refine quietL_nil ?_)
          refine anyB_one_want (i := 14) (by kernel_rfl) rfl (by with_unfolding_all rfl) ?_
          intro w3 hb3 K hK
          have hs3 := hb3.size
          go_wp2_with fail
          obtain ⟨rv, hrv⟩ : ∃ rv, rkI ck x y = rv := ⟨_, rfl⟩
          have HRV := Lib.hid hrv
          have hcc := HC.out w3 (gb_below HG2.out hb3) x hxl y hyl
          rw [hrv] at hcc
          clear hrv
          refine hcc.mono ?_
          clear hcc
          rintro e w4 ⟨rfl, hb4⟩
          have hs4 := hb4.size
          (go_wp2; refine ⟨xs_, ?_⟩)
          by_cases hlv : rv < 0
          · (refine anyB_quiet_at (by kernel_rfl) calm_panic xs_ 0 [15, 16] _ _ (by kernel_rfl) (by decide +kernel) ?_; simp only [pickB, List.filterMap_cons, List.filterMap_nil, List.getElem?_toArray, List.getElem?_cons_zero, List.getElem?_cons_succ]; (repeat (first | ((first | (with_reducible refine quietL_plain rfl (fun K hK => ?_)) | (with_reducible refine quietL_want (by with_unfolding_all rfl) (fun K hK => ?_))); (apply Exists.intro; refine ⟨fun wx hx => ?_, ?_⟩; (· (have hcx := ifs_ex hx); simp [go_sem, *, ↓IntWalk.iteOmega] <;> (first | rfl | exact ⟨rfl, rfl⟩ | fail)); (simp only [Act.put, List.setIfInBounds_toArray, List.set_cons_zero, List.set_cons_succ]; refine hK _ ?_; clear hK K))) | ((with_reducible refine quietL_skip (by with_unfolding_all rfl) ?_); simp only [Act.put, List.setIfInBounds_toArray, List.set_cons_zero, List.set_cons_succ]))); refine quietL_nil ?_)
            (refine anyB_end (by kernel_rfl) ?_; intro w5 hb5; have hs5 := hb5.size; (try simp at hs5); simp only [Calm])
            go_wp2_with fail
            have hO5 := ((HR2.out.kept hb3).kept hb4).kept hb5
            have HG5 := Lib.hid (gb_below (gb_below (gb_below HG2.out hb3) hb4) hb5)
            obtain ⟨z1', z0'⟩ := way_at hO5 hjR
            rw [HY.out] at z0'
            have lB5 : blk < w5.heap.size := (Own.lt hO5).2
            have fz : ∀ j, w5.frozen? ⟨blk, j, none⟩ = false := fun j => World.ownsRow.frozenAt hO5 j
            have HO5 := Lib.hid hO5
            clear hO5 z1 z0 lB hb3 hb4 hb5 hs3 hs4 hs5
            (refine wp_region_calm [blk] [0, 1, 2, 3, 4, 5, 6, 7, 8, 10, 11, 12] 6 (by kernel_rfl) rfl (by kernel_rfl) (by kernel_rfl) (by kernel_rfl) ?_; simp only [pickB, List.filterMap_cons, List.filterMap_nil, List.getElem?_toArray, List.getElem?_cons_zero, List.getElem?_cons_succ]; (repeat (first | ((first | (with_reducible refine quietL_plain rfl (fun K hK => ?_)) | (with_reducible refine quietL_want (by with_unfolding_all rfl) (fun K hK => ?_))); (apply Exists.intro; refine ⟨fun wx hx => ?_, ?_⟩; (· (have hcx := ifs_ex hx); simp [go_sem, *, ↓IntWalk.iteOmega] <;> (first | rfl | exact ⟨rfl, rfl⟩ | fail)); (simp only [Act.put, List.setIfInBounds_toArray, List.set_cons_zero, List.set_cons_succ]; refine hK _ ?_; clear hK K))) | ((with_reducible refine quietL_skip (by with_unfolding_all rfl) ?_); simp only [Act.put, List.setIfInBounds_toArray, List.set_cons_zero, List.set_cons_succ]))); refine quietL_nil ?_)
            refine anyB_two (i := 9) (j := 13) (by kernel_rfl) rfl rfl rfl rfl ?_ ?_
            · intro w6 hb6 K hK
              obtain ⟨hc6, hf6⟩ := ifs_of hb6; have hs6 := hb6.size; (try simp at hs6)
              go_wp2
              refine ⟨xs_, ?_⟩
              (refine anyB_one (i := 13) (by kernel_rfl) rfl rfl ?_; intro w7 hb7 K hK; obtain ⟨hc7, hf7⟩ := ifs_of hb7; have hs7 := hb7.size; (try simp at hs7); go_wp2; refine ⟨xs_, ?_⟩)
              (refine anyB_one (i := 14) (by kernel_rfl) rfl rfl ?_; intro w8 hb8 K hK; obtain ⟨hc8, hf8⟩ := ifs_of hb8; have hs8 := hb8.size; (try simp at hs8); go_wp2; refine ⟨xs_, ?_⟩)
              (refine anyB_one (i := 15) (by kernel_rfl) rfl rfl ?_; intro w9 hb9 K hK; obtain ⟨hc9, hf9⟩ := ifs_of hb9; have hs9 := hb9.size; (try simp at hs9); go_wp2; refine ⟨xs_, ?_⟩)
              (refine anyB_one (i := 16) (by kernel_rfl) rfl rfl ?_; intro w10 hb10 K hK; obtain ⟨hc10, hf10⟩ := ifs_of hb10; have hs10 := hb10.size; (try simp at hs10); go_wp2; refine ⟨xs_, ?_⟩)
              (refine anyB_one (i := 17) (by kernel_rfl) rfl rfl ?_; intro w11 hb11 K hK; obtain ⟨hc11, hf11⟩ := ifs_of hb11; have hs11 := hb11.size; (try simp at hs11); go_wp2; refine ⟨xs_, ?_⟩)
              (refine anyB_end (by kernel_rfl) ?_; intro w12 hb12; obtain ⟨hc12, hf12⟩ := ifs_of hb12; have hs12 := hb12.size; (try simp at hs12); simp only [Calm])
              have t1 := ((((HO5.out.kept hb6).kept hb7).kept hb8).kept hb9)
              obtain ⟨t2, t3⟩ := World.ownsRow.stored t1 (jp + 1) (.int .i64 y)
              have t4 := Own.kept (Own.kept t2 hb10) hb11
              obtain ⟨t5, t6⟩ := World.ownsRow.stored t4 jp (.int .i64 x)
              have t7 := Own.kept t5 hb12
              rw [← HY.out, way_swap hjR] at t7
              have t8 := Lib.hid t7
              have t9 := Lib.hid (gb_below (gb_trans (gb_below (gb_below (gb_trans (gb_below (gb_below (gb_below (gb_below HG5.out hb6) hb7) hb8) hb9) t3) hb10) hb11) t6) hb12)
              have HB' : Hid (∀ y' ∈ R.drop jp, betB ck x y' = true) := by
                refine Lib.hid fun y' hy' => ?_
                rw [List.drop_eq_getElem_cons hjR, HY.out] at hy'
                rcases List.mem_cons.1 hy' with rfl | hy'
                · exact (rk_bet hyx).1 (by rw [HRV.out]; exact hlv)
                · exact HB.out y' hy'
              clear t1 t2 t3 t4 t5 t6 t7
              go_wp2_with fail
              exact ⟨⟨jp, rfl, by omega, HB', t8, t9⟩, by simp [intOf]⟩
            · intro w6 hb6 K hK
              obtain ⟨hc6, hf6⟩ := ifs_of hb6; have hs6 := hb6.size; (try simp at hs6)
              go_wp2
              refine ⟨xs_, ?_⟩
              (refine anyB_one (i := 9) (by kernel_rfl) rfl rfl ?_; intro w7 hb7 K hK; obtain ⟨hc7, hf7⟩ := ifs_of hb7; have hs7 := hb7.size; (try simp at hs7); go_wp2; refine ⟨xs_, ?_⟩)
              (refine anyB_one (i := 14) (by kernel_rfl) rfl rfl ?_; intro w8 hb8 K hK; obtain ⟨hc8, hf8⟩ := ifs_of hb8; have hs8 := hb8.size; (try simp at hs8); go_wp2; refine ⟨xs_, ?_⟩)
              (refine anyB_one (i := 15) (by kernel_rfl) rfl rfl ?_; intro w9 hb9 K hK; obtain ⟨hc9, hf9⟩ := ifs_of hb9; have hs9 := hb9.size; (try simp at hs9); go_wp2; refine ⟨xs_, ?_⟩)
              (refine anyB_one (i := 16) (by kernel_rfl) rfl rfl ?_; intro w10 hb10 K hK; obtain ⟨hc10, hf10⟩ := ifs_of hb10; have hs10 := hb10.size; (try simp at hs10); go_wp2; refine ⟨xs_, ?_⟩)
              (refine anyB_one (i := 17) (by kernel_rfl) rfl rfl ?_; intro w11 hb11 K hK; obtain ⟨hc11, hf11⟩ := ifs_of hb11; have hs11 := hb11.size; (try simp at hs11); go_wp2; refine ⟨xs_, ?_⟩)
              (refine anyB_end (by kernel_rfl) ?_; intro w12 hb12; obtain ⟨hc12, hf12⟩ := ifs_of hb12; have hs12 := hb12.size; (try simp at hs12); simp only [Calm])
              have t1 := ((((HO5.out.kept hb6).kept hb7).kept hb8).kept hb9)
              obtain ⟨t2, t3⟩ := World.ownsRow.stored t1 (jp + 1) (.int .i64 y)
              have t4 := Own.kept (Own.kept t2 hb10) hb11
              obtain ⟨t5, t6⟩ := World.ownsRow.stored t4 jp (.int .i64 x)
              have t7 := Own.kept t5 hb12
              rw [← HY.out, way_swap hjR] at t7
              have t8 := Lib.hid t7
              have t9 := Lib.hid (gb_below (gb_trans (gb_below (gb_below (gb_trans (gb_below (gb_below (gb_below (gb_below HG5.out hb6) hb7) hb8) hb9) t3) hb10) hb11) t6) hb12)
              have HB' : Hid (∀ y' ∈ R.drop jp, betB ck x y' = true) := by
                refine Lib.hid fun y' hy' => ?_
                rw [List.drop_eq_getElem_cons hjR, HY.out] at hy'
                rcases List.mem_cons.1 hy' with rfl | hy'
                · exact (rk_bet hyx).1 (by rw [HRV.out]; exact hlv)
                · exact HB.out y' hy'
              clear t1 t2 t3 t4 t5 t6 t7
              go_wp2_with fail
              exact ⟨⟨jp, rfl, by omega, HB', t8, t9⟩, by simp [intOf]⟩
          · (refine anyB_quiet_at (by kernel_rfl) calm_panic xs_ 0 [15, 16] _ _ (by kernel_rfl) (by decide +kernel) ?_; simp only [pickB, List.filterMap_cons, List.filterMap_nil, List.getElem?_toArray, List.getElem?_cons_zero, List.getElem?_cons_succ]; (repeat (first | ((first | (with_reducible refine quietL_plain rfl (fun K hK => ?_)) | (with_reducible refine quietL_want (by with_unfolding_all rfl) (fun K hK => ?_))); (apply Exists.intro; refine ⟨fun wx hx => ?_, ?_⟩; (· (have hcx := ifs_ex hx); simp [go_sem, *, ↓IntWalk.iteOmega] <;> (first | rfl | exact ⟨rfl, rfl⟩ | fail)); (simp only [Act.put, List.setIfInBounds_toArray, List.set_cons_zero, List.set_cons_succ]; refine hK _ ?_; clear hK K))) | ((with_reducible refine quietL_skip (by with_unfolding_all rfl) ?_); simp only [Act.put, List.setIfInBounds_toArray, List.set_cons_zero, List.set_cons_succ]))); refine quietL_nil ?_)
            (refine anyB_end (by kernel_rfl) ?_; intro w5 hb5; have hs5 := hb5.size; (try simp at hs5); simp only [Calm])
            go_wp2_with fail
            have hO5 := ((HR2.out.kept hb3).kept hb4).kept hb5
            have hG5 := gb_below (gb_below (gb_below HG2.out hb3) hb4) hb5
            have hle : ∀ y' ∈ (R.take (jp + 1)).getLast?, leB ck y' x := by
              intro y' hy'
              rw [List.take_succ_eq_append_getElem hjR, HY.out] at hy'
              simp at hy'
              subst hy'
              show betB ck x y = false
              cases hbb : betB ck x y with
              | false => rfl
              | true =>
                have := (rk_bet hyx).2 hbb
                rw [HRV.out] at this
                exact absurd this hlv
            obtain ⟨R', q1, q2, q3⟩ := FIN.out w5 (jp + 1) hj hle HB (Lib.hid hO5)
            exact ⟨⟨k + 1, R', by go_num, by omega, by omega, q1, q2, q3, Lib.hid hG5⟩, by simp [intOf]; omega⟩
    · have hkn : ¬ ((k : Int) < (l.length : Int)) := by omega
      go_wp2_with fail
      refine bodyPost_end (results_none rfl _ _ _) rfl ?_
      exact ⟨rfl, R, by have := HP.out; rwa [List.take_of_length_le (by omega)] at this, HS.out, by have := HR.out; rwa [List.drop_eq_nil_of_le (by omega), List.append_nil] at this, HG.out⟩
end Go.Proofs.YtafnebfchhmgcaaGreat
/- Library: the stable sort of a short row. -/
namespace Go.Proofs.YtafnebfchhmgcaaGreat
open Go.RowKit Go.Sort Go.Shelf
set_option linter.unusedSimpArgs false
set_option linter.unusedVariables false
attribute [local go_sem] cell_if frozen_if grow_cell
def SortedS (ck : Ck) (l : List Int) (base blk cap : Nat) (w : World) (e : Ending) (w' : World) : Prop := e = .returned (.tuple #[]) ∧ ∃ R : List Int, R.Perm l ∧ R.Pairwise (leB ck) ∧ Own w' base 3 1 blk l.length cap (intV R) ∧ w.grownBy w' (some blk)
set_option maxRecDepth 100000 in
theorem stab_any (ck : Ck) (l : List Int) (base blk cap g : Nat) (cb : Array Value) (w : World) (hO : Own w base 3 1 blk l.length cap (intV l)) (hA : l.Pairwise (· < ·)) (hn : l.length ≤ 19)
    (eg : Enters Tryz.prog g) (hC : ∀ W, w.grownBy W (some blk) → ∀ x ∈ l, ∀ y ∈ l, Calls Tryz.prog g (#[.int .i64 x, .int .i64 y] ++ cb) W fun e w' => e = .returned (.int .i64 (rkI ck x y)) ∧ Below W.heap.size W w') :
    Calls Tryz.prog 187 #[.slice (some ⟨blk, 0, none⟩) l.length cap, .int .i64 l.length, .func (.func g) #[] cb] w (SortedS ck l base blk cap w) := by
  have HI := Lib.hid (insS_any ck l base blk cap g cb w hO hA (by omega) eg hC)
  clear hO hA hC
  have c1 : ¬ ((20 : Int) ≤ (l.length : Int)) := by omega
  have c2 : ¬ ((20 : Int) < (l.length : Int)) := by omega
  go_enter Tryz.func187, Tryz.ntmps187
  go_wp2_with fail
  go_loopw [7, 8] (fun s i wr => s = .int .i64 0 ∧ i = .int .i64 20 ∧ wr = w) (fun _ _ _ => 0)
  case atStart => exact ⟨rfl, rfl, rfl⟩
  case round =>
    obtain ⟨rfl, rfl, rfl⟩ := hrel
    go_wp2_with fail
    refine HI.out.mono ?_
    rintro e w1 ⟨rfl, hR⟩
    have HR := Lib.hid hR
    clear hR HI
    go_wp2_with fail
    go_loopw [6] (fun s wr2 => s = .int .i64 20 ∧ wr2 = w1) (fun _ _ => 0)
    case atStart => exact ⟨rfl, rfl⟩
    case round =>
      obtain ⟨rfl, rfl⟩ := hrel
      go_wp2_with fail
      refine bodyPost_end (results_none rfl _ _ _) rfl ?_
      exact ⟨rfl, HR.out⟩
theorem sortS_any (ck : Ck) (l : List Int) (base blk cap g : Nat) (cb : Array Value) (w : World) (hO : Own w base 3 1 blk l.length cap (intV l)) (hA : l.Pairwise (· < ·)) (hn : l.length ≤ 19)
    (eg : Enters Tryz.prog g) (hC : ∀ W, w.grownBy W (some blk) → ∀ x ∈ l, ∀ y ∈ l, Calls Tryz.prog g (#[.int .i64 x, .int .i64 y] ++ cb) W fun e w' => e = .returned (.int .i64 (rkI ck x y)) ∧ Below W.heap.size W w') :
    Calls Tryz.prog 163 #[.slice (some ⟨blk, 0, none⟩) l.length cap, .func (.func g) #[] cb] w (SortedS ck l base blk cap w) := by
  have HI := Lib.hid (stab_any ck l base blk cap g cb w hO hA hn eg hC)
  clear hO hA hC eg
  go_enter Tryz.func163, Tryz.ntmps163
  go_wp2_with fail
  refine HI.out.mono ?_
  rintro e w1 ⟨rfl, hR⟩
  have HR := Lib.hid hR
  clear hR HI
  go_wp2_with fail
  refine bodyPost_end (results_none rfl _ _ _) rfl ?_
  exact ⟨rfl, HR.out⟩
end Go.Proofs.YtafnebfchhmgcaaGreat
/- ranked: the usable modules, the best ahead. -/
namespace Go.Proofs.YtafnebfchhmgcaaGreat
open Go.RowKit Go.Sort Go.Shelf
set_option linter.unusedSimpArgs false
set_option linter.unusedVariables false
attribute [local go_sem] cell_if frozen_if grow_cell
theorem insS_nil (g : Nat) (cb : Array Value) (w : World) : Calls Tryz.prog 211 #[.slice none 0 0, .int .i64 0, .int .i64 0, .func (.func g) #[] cb] w fun e w' => e = .returned (.tuple #[]) ∧ w = w' := by
  go_enter Tryz.func211, Tryz.ntmps211
  go_wp2_with fail
  go_loopw [8] (fun i wr => i = .int .i64 1 ∧ wr = w) (fun _ _ => 0)
  case atStart => exact ⟨rfl, rfl⟩
  case round =>
    obtain ⟨rfl, rfl⟩ := hrel
    go_wp2_with fail
    refine bodyPost_end (results_none rfl _ _ _) rfl ?_
    exact ⟨rfl, rfl⟩
theorem stab_nil (g : Nat) (cb : Array Value) (w : World) : Calls Tryz.prog 187 #[.slice none 0 0, .int .i64 0, .func (.func g) #[] cb] w fun e w' => e = .returned (.tuple #[]) ∧ w = w' := by
  go_enter Tryz.func187, Tryz.ntmps187
  go_wp2_with fail
  go_loopw [7, 8] (fun s i wr => s = .int .i64 0 ∧ i = .int .i64 20 ∧ wr = w) (fun _ _ _ => 0)
  case atStart => exact ⟨rfl, rfl, rfl⟩
  case round =>
    obtain ⟨rfl, rfl, rfl⟩ := hrel
    go_wp2_with fail
    refine (insS_nil _ _ _).mono ?_
    rintro e w1 ⟨rfl, rfl⟩
    go_wp2_with fail
    go_loopw [6] (fun s wr2 => s = .int .i64 20 ∧ wr2 = wr) (fun _ _ => 0)
    case atStart => exact ⟨rfl, rfl⟩
    case round =>
      obtain ⟨rfl, rfl⟩ := hrel
      go_wp2_with fail
      refine bodyPost_end (results_none rfl _ _ _) rfl ?_
      exact ⟨rfl, rfl⟩
theorem sortS_nil (g : Nat) (cb : Array Value) (w : World) : Calls Tryz.prog 163 #[.slice none 0 0, .func (.func g) #[] cb] w fun e w' => e = .returned (.tuple #[]) ∧ w = w' := by
  go_enter Tryz.func163, Tryz.ntmps163
  go_wp2_with fail
  refine (stab_nil _ _ _).mono ?_
  rintro e w1 ⟨rfl, rfl⟩
  go_wp2_with fail
  refine bodyPost_end (results_none rfl _ _ _) rfl ?_
  exact ⟨rfl, rfl⟩
/-- What the sort of the ranked ones gives: the row, or nil. -/
theorem sortU_any (B : Nat) (A : Option Addr) (n c : Nat) (a : Ar) (cu : Int) (base ga gc gr gs : Nat) (v : Value) (w : World) (hM : MsAt w B A n a.m) (hB : B ≤ base) (hbs : base ≤ w.heap.size) (hn : n ≤ 17)
    (h1 : Blk w ga 36 #[.slice A n c, .int .i64 a.lo, .int .i64 a.hi, .int .i64 a.cur, .int .i64 a.lim]) (h2 : Blk w gc 228 #[.func (.func 140) #[] #[]]) (h3 : Blk w gr 3 #[.int .i64 cu]) (h4 : Blk w gs 229 #[.func (.func 162) #[] #[]]) (h3b : gr < base)
    (hO : w.ownsRow base 3 1 v (usL a).length ((usL a).map (.int .i64))) :
    Calls Tryz.prog 163 #[v, .func (.func 164) #[] #[.pointer (some ⟨ga, 0, none⟩), .pointer (some ⟨gc, 0, none⟩), .pointer (some ⟨gr, 0, none⟩), .pointer (some ⟨gs, 0, none⟩)]] w fun e w' => e = .returned (.tuple #[]) ∧ w'.ownsRow base 3 1 v (usL a).length ((rankL (ckA a cu) (usL a)).map (.int .i64)) ∧ Below base w w' := by
  have hl := (md_at hM).1
  have hul : (usL a).length ≤ n := by
    have h1 := idxs_len usB a.m 0
    have h2 : (usL a).length = (idxs usB 0 a.m).length := rfl
    omega
  rcases hO.2 with ⟨rfl, h0⟩ | ⟨blk, cap, cur, rfl, hb, hh, r⟩
  · have e0 : usL a = [] := by
      cases h : usL a with
      | nil => rfl
      | cons x r => rw [h] at h0; simp at h0
    refine (sortS_nil _ _ _).mono ?_
    rintro e w' ⟨rfl, rfl⟩
    rw [e0]
    rw [e0] at hO
    exact ⟨rfl, hO, Below.refl _ _⟩
  · have hO' : Own w base 3 1 blk (usL a).length cap (intV (usL a)) := hO
    have hbl : Blk w blk 3 cur := hh
    refine (sortS_any (ckA a cu) (usL a) base blk cap 164 _ w hO' (idxs_sorted _ _ _) (by omega) (enters_of Tryz.func164 (by kernel_rfl) rfl) ?_).mono ?_
    · intro W hW x hx y hy
      obtain ⟨i, hi, e1, _⟩ := mem_idxs.1 hx
      obtain ⟨k, hk, e2, _⟩ := mem_idxs.1 hy
      rw [Nat.zero_add] at e1 e2
      rw [e1, e2]
      have kb : ∀ {j : Nat} {t : TypeId} {c : Array Value}, Blk w j t c → j ≠ blk → Blk W j t c := fun hj hne => (hW.block _ hj.lt (fun e => hne (by cases e; rfl))).trans hj
      have hMW : MsAt W B A n a.m := hM.below ((Below.refl B w).grown hW (by omega) (fun j hj => by cases hj; omega))
      exact rkc_any B A n c a i k cu ga gc gr gs W hMW (by have := hW.size; omega) (by omega) (by omega) (by omega) (kb h1 (blk_ne h1 hbl (by decide))) (kb h2 (blk_ne h2 hbl (by decide))) (kb h3 (by omega)) (kb h4 (blk_ne h4 hbl (by decide)))
    · rintro e w' ⟨rfl, R, hp, hs, hOR, hg⟩
      have eR := rank_unique hp hs
      rw [eR] at hOR
      exact ⟨rfl, hOR, (Below.refl base w).grown hg (by omega) (fun j hj => by cases hj; exact hb)⟩
set_option maxRecDepth 100000 in
set_option maxHeartbeats 4000000 in
theorem ranked_any (B : Nat) (A : Option Addr) (n c : Nat) (a : Ar) (cu : Int) (w : World) (hM : MsAt w B A n a.m) (hB : B ≤ w.heap.size) (hn : n ≤ 17) :
    Calls Tryz.prog 132 #[.agg #[.slice A n c, .int .i64 a.lo, .int .i64 a.hi, .int .i64 a.cur, .int .i64 a.lim], .int .i64 cu] w (IdRes w (rankL (ckA a cu) (usL a))) := by
  have HJ := Lib.hid (fun W (hW : Below w.heap.size w W) => indices_any 88 #[] #[] B A n c a (fun _ => true) W (hM.below (hW.mono hB)) (by have := hW.size; omega) (by omega) (enters_of Tryz.func88 (by kernel_rfl) rfl) (fun W' _ x _ => all_any x W'))
  rw [idxs_all a] at HJ
  have HM := Lib.hid hM
  clear hM
  go_enter Tryz.func132, Tryz.ntmps132
  go_wp2_with fail
  refine (HJ.out _ bl_).mono ?_
  rintro e w3 ⟨v, rfl, hr, hb3⟩
  have hs3 := hb3.size
  simp at hs3
  have bA : Blk w3 w.heap.size 36 #[.slice A n c, .int .i64 a.lo, .int .i64 a.hi, .int .i64 a.cur, .int .i64 a.lim] := bk_
  have bC : Blk w3 (w.heap.size + 1) 3 #[.int .i64 cu] := bk_
  have hlow3 : Below w.heap.size w w3 := bl_
  have hr3 := Lib.hid (row_base (base' := w.heap.size + 1 + 1) hr (by simp))
  have HL3 := Lib.hid hlow3
  have HB3 := Lib.hid bA
  have HC3 := Lib.hid bC
  clear hr hb3 hlow3 bA bC HJ
  go_upto_region 2 with fail
  go_cut [6, 7] (fun s6 s7 wx => ∃ b6 b7 : Nat, s6 = .pointer (some ⟨b6, 0, none⟩) ∧ s7 = .pointer (some ⟨b7, 0, none⟩) ∧ Blk wx b6 228 #[.func (.func 140) #[] #[]] ∧ Blk wx b7 229 #[.func (.func 162) #[] #[]] ∧ Below w3.heap.size w3 wx)
  case first =>
    go_wp2_with fail
    go_meet
    case rel => exact ⟨_, _, rfl, rfl, bk_, bk_, bl_⟩
  rename World => w7
  obtain ⟨b6, b7, rfl, rfl, g1, g2, g3⟩ := hcut
  have HS := Lib.hid (sortU_any B A n c a cu (w.heap.size + 1 + 1) w.heap.size b6 (w.heap.size + 1) b7 v w7 (HM.out.below ((HL3.out.trans (g3.mono HL3.out.size)).mono hB)) (by omega) (by have := g3.size; omega) hn (HB3.out.kept g3) g1 (HC3.out.kept g3) g2 (by omega) (own_kept hr3.out g3))
  have HG3 := Lib.hid g3
  clear g1 g2 g3
  go_wp2_with fail
  refine HS.out.mono ?_
  rintro e w9 ⟨rfl, hr9, hb9⟩
  have HR9 := Lib.hid hr9
  have HB9 := Lib.hid hb9
  clear hr9 hb9
  go_wp2_with fail
  go_ret
  exact ⟨_, rfl, by rw [(rankL_perm _ _).length_eq]; exact row_base HR9.out (by omega), (HL3.out.trans (HG3.out.mono HL3.out.size)).trans (HB9.out.mono (by omega))⟩
end Go.Proofs.YtafnebfchhmgcaaGreat
