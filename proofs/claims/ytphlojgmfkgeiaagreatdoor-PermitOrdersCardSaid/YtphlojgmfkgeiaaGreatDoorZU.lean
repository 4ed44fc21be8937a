/- Reference: Order. -/
import Derived.Test.YtphlojgmfkgeiaaGreatDoorZT
namespace Go.Proofs.YtphlojgmfkgeiaaGreatDoor
open Go.RowKit Go.Sort Go.Shelf
set_option linter.unusedSimpArgs false
set_option linter.unusedVariables false
attribute [local go_sem] cell_if frozen_if grow_cell
theorem ord_step {y : Yd} {f : Int → Bool} {M d k : Nat} {s : Int} (hk : k < y.w.length) (h : ∀ i, i < k → (freeS y s i && dst y f M (nextS y s i) == (d : Int)) = false) (hp : (freeS y s k && dst y f M (nextS y s k) == (d : Int)) = true) : ordG y f M (d + 1) s = (k : Int) :: ordG y f M d (nextS y s k) := by
  rw [ordG, List.find?_range_eq_some.2 ⟨hp, List.mem_range.2 hk, fun j hj => by simp [h j hj]⟩]
def ordRE (y : Yd) (gk gs : ByteArray) : Int := whenE (!(searchL y (holdsF y gk gs)).2.isSome) 18
set_option maxRecDepth 100000 in
set_option maxHeartbeats 8000000 in
theorem rOrder_any (B : Nat) (A0 A1 A2 : Option Addr) (n0 n1 n2 c0 c1 c2 : Nat) (y : Yd) (w : World) (hY : YdAt w B A0 A1 A2 n0 n1 n2 y) (hB : B ≤ w.heap.size) (hP : Parts y) (gk gs : ByteArray) (hk : goalB gk = true) (h0 : 0 ≤ secAtB y gs) :
    Calls Tryz.prog 55 #[.agg #[.slice A0 n0 c0, .slice A1 n1 c1, .slice A2 n2 c2], .agg #[.string gk, .string gs]] w (WordsERes w (resW (ordRE y gk gs) (orderL y gk gs)) (ordRE y gk gs)) := by
  have hl1 := (sw_at hY.hw).1
  have h8' := hP.w8
  have hp9 := pow9 (k := n1) (by omega)
  obtain ⟨N, hN⟩ : ∃ N : Nat, N = 2 ^ n1 := ⟨_, rfl⟩
  have hN5 : N ≤ 512 := by have := hp9.2; have h2 : ((2 ^ n1 : Nat) : Int) = 2 ^ n1 := by simp
                           omega
  have HGp := Lib.hid (fun W (hW : Below w.heap.size w W) => Graph_any B A0 A1 A2 n0 n1 n2 c0 c1 c2 y W (hY.below (hW.mono hB)) (by have := hW.size; omega) hP)
  have HDs := Lib.hid (fun W G cap vs (hW : Below w.heap.size w W) (hG : GrS W G y (2 ^ n1) vs) => distances_any B A0 A1 A2 n0 n1 n2 c0 c1 c2 y W (hY.below (hW.mono hB)) (by have := hW.size; omega) hP gk gs hk h0 G cap vs hG)
  have HSt := Lib.hid (fun W (hW : Below w.heap.size w W) => rState_any B A0 A1 A2 n0 n1 n2 c0 c1 c2 y W (hY.below (hW.mono hB)) (by have := hW.size; omega) (by omega))
  rw [← hN] at HGp HDs
  have hy0 := stUp_bd y.w n1
  obtain ⟨z0, hz0⟩ := Int.eq_ofNat_of_zero_le hy0.1
  have hz0N : z0 < N := by have := hy0.2; have h2 : ((2 ^ n1 : Nat) : Int) = 2 ^ n1 := by simp
                           omega
  have HY0 : Hid (y0 y = (z0 : Int)) := by show _ = _; unfold y0; rw [hl1, hz0]
  rw [hz0] at HSt
  have HNx : Hid (∀ (s : Int) (k : Nat), ∃ t : Nat, nextS y s k = (t : Int) ∧ t < N) := fun s k => by
    have h1 := mem_rng.1 (nextS_in y s k)
    obtain ⟨t, ht⟩ := Int.eq_ofNat_of_zero_le h1.1
    refine ⟨t, ht, ?_⟩
    have := h1.2
    rw [hl1, ← hN] at this
    omega
  have HSw := Lib.hid (sw_at hY.hw).2
  have HL1 := Lib.hid hl1
  have hM : 2 ^ y.w.length - 1 = N - 1 := by rw [hl1, hN]
  have HRl := Lib.hid (reachL_len y)
  rw [hl1, ← hN] at HRl
  unfold ordRE orderL
  generalize hf : holdsF y gk gs = f at *
  clear hY hP hy0 hz0 h0 hk hp9 hN hl1 hf
  cases hs : (searchL y f).2 with
  | none =>
    have HE := Lib.hid (order_none hs (N - 1))
    rw [HY0.out] at HE
    clear hs
    go_enter Tryz.func55, Tryz.ntmps55
    go_wp2_with fail
    refine (HGp.out _ bl_).mono ?_
    rintro e w1 ⟨A, cap, vs, rfl, hgr, hb1⟩
    have hs1 := hb1.size
    (try simp at hs1)
    have BY1 := Lib.hid (bk_ : Blk w1 w.heap.size 26 #[.slice A0 n0 c0, .slice A1 n1 c1, .slice A2 n2 c2])
    have BG1 := Lib.hid (bk_ : Blk w1 (w.heap.size + 1) 28 #[.string gk, .string gs])
    have HB1 := Lib.hid (bl_ : Below w.heap.size w w1)
    have cY := BY1.out.cell
    have lY := BY1.out.lt
    have cG := BG1.out.cell
    have lG := BG1.out.lt
    clear hb1
    go_wp2_with fail
    refine (HDs.out _ _ _ _ HB1.out hgr).mono ?_
    rintro e w2 ⟨g, rfl, b9, hg9, hb2⟩
    have hs2 := hb2.size
    have HB2 := Lib.hid (HB1.out.trans (hb2.mono HB1.out.size))
    have BY2 := Lib.hid (BY1.out.kept hb2)
    have Z9 := Lib.hid b9
    have cY := BY2.out.cell
    have lY := BY2.out.lt
    clear hb2 cG lG b9 BY1 BG1
    go_wp2_with fail
    refine (HSt.out _ HB2.out).mono ?_
    (rintro e w3 ⟨rfl, hb3⟩; have hs3 := hb3.size; (try simp at hs3))
    have HB3 := Lib.hid (HB2.out.trans (hb3.mono HB2.out.size))
    have k9 := Z9.out.kept hb3
    have c9 := k9.cell
    have l9 := k9.lt
    have gz := fnV_get (F := fun s => dst y f (N - 1) s) hz0N
    simp only [HE.out] at gz
    generalize fnV N (fun s => dst y f (N - 1) s) = zz at *
    clear hb3
    go_wp2_with fail
    go_ret2
    exact ⟨none, 0, rfl, Reads.nil_, HB3.out⟩
  | some p =>
    obtain ⟨E1, E2⟩ := order_some hs
    rw [hM] at E1 E2
    have hpl : p.m.length < N := Nat.lt_of_lt_of_le (way_short hs) HRl.out
    have hpl2 : (p.m.map (swNm y)).length < N := by rw [List.length_map]; exact hpl
    have HE := Lib.hid (And.intro E1 E2)
    rw [HY0.out] at HE
    have HRe := Lib.hid (y0_reach y)
    rw [HY0.out] at HRe
    clear hs E1 E2
    have HPl := Lib.hid hpl2
    clear hpl hpl2
    rw [show whenE (!(some p).isSome) 18 = 0 from rfl, show resW 0 (List.map (swNm y) p.m) = List.map (swNm y) p.m from rfl]
    go_enter Tryz.func55, Tryz.ntmps55
    go_wp2_with fail
    refine (HGp.out _ bl_).mono ?_
    rintro e w1 ⟨A, cap, vs, rfl, hgr, hb1⟩
    have hs1 := hb1.size
    (try simp at hs1)
    have BY1 := Lib.hid (bk_ : Blk w1 w.heap.size 26 #[.slice A0 n0 c0, .slice A1 n1 c1, .slice A2 n2 c2])
    have BG1 := Lib.hid (bk_ : Blk w1 (w.heap.size + 1) 28 #[.string gk, .string gs])
    have HB1 := Lib.hid (bl_ : Below w.heap.size w w1)
    have cY := BY1.out.cell
    have lY := BY1.out.lt
    have cG := BG1.out.cell
    have lG := BG1.out.lt
    clear hb1
    go_wp2_with fail
    refine (HDs.out _ _ _ _ HB1.out hgr).mono ?_
    rintro e w2 ⟨g, rfl, b9, hg9, hb2⟩
    have hs2 := hb2.size
    have HB2 := Lib.hid (HB1.out.trans (hb2.mono HB1.out.size))
    have BY2 := Lib.hid (BY1.out.kept hb2)
    have Z9 := Lib.hid b9
    have cY := BY2.out.cell
    have lY := BY2.out.lt
    have hb2' := hb2
    clear hb2 cG lG b9 BY1 BG1
    go_wp2_with fail
    refine (HSt.out _ HB2.out).mono ?_
    (rintro e w3 ⟨rfl, hb3⟩; have hs3 := hb3.size; (try simp at hs3))
    have HB3 := Lib.hid (HB2.out.trans (hb3.mono HB2.out.size))
    have HGr := Lib.hid ((hgr.kept hb2').kept hb3)
    have Z93 := Lib.hid (Z9.out.kept hb3)
    have BY3 := Lib.hid (BY2.out.kept hb3)
    have c9 := Z93.out.cell
    have l9 := Z93.out.lt
    have gz := fnV_get (F := fun s => dst y f (N - 1) s) hz0N
    have hnn : ¬ dst y f (N - 1) (z0 : Int) < 0 := by rw [HE.out.1]; omega
    have HDz := Lib.hid (HE.out.1)
    generalize hdv : dst y f (N - 1) (z0 : Int) = dv at *
    generalize hzz : fnV N (fun s => dst y f (N - 1) s) = zz at *
    clear hb3 hb2'
    go_wp2_with fail
    subst hdv hzz
    clear c9 l9 gz hnn cY lY HGp HDs HSt HB1 HB2 Z9 BY2 hgr
    go_loopw [8, 9] (fun v8 v9 wr => ∃ (s d : Nat) (zs : List ByteArray), v8 = .int .i64 (s : Int) ∧ s < N ∧ (s : Int) ∈ reachB y ∧ Hid (dst y f (N - 1) (s : Int) = (d : Int)) ∧ Hid (zs ++ (ordG y f (N - 1) d s).map (swNm y) = p.m.map (swNm y)) ∧ wr.ownsRow w3.heap.size 9 1 v9 zs.length (zs.map .string) ∧ Below w3.heap.size w3 wr) (fun v8 _ _ => (dst y f (N - 1) (intOf v8)).toNat)
    case atStart => exact ⟨z0, p.m.length, [], rfl, hz0N, HRe.out, Lib.hid HE.out.1, Lib.hid (by rw [HE.out.2]; rfl), World.ownsRow_nil _ _ _ _, Below.refl _ _⟩
    case round =>
      obtain ⟨s, d, zs, rfl, hsN, hin, hd, hpm, hO, hb⟩ := hrel
      have hsr := hb.size
      have HO := Lib.hid hO
      have HB := Lib.hid hb
      have HIn := Lib.hid hin
      have HD := Lib.hid hd.out
      have HPm := Lib.hid hpm.out
      clear hO hb hin hd hpm
      have gz := fnV_get (F := fun s => dst y f (N - 1) s) hsN
      simp only [HD.out] at gz
      have k9 := Z93.out.kept HB.out
      have c9 := k9.cell
      have l9 := k9.lt
      have kY := BY3.out.kept HB.out
      have cY := kY.cell
      have lY := kY.lt
      clear kY k9
      cases d with
      | zero =>
        have hzs : zs = p.m.map (swNm y) := by
          have := HPm.out
          rw [show ordG y f (N - 1) 0 s = [] from rfl] at this
          simpa using this
        have hO := HO.out
        rw [hzs] at hO
        obtain ⟨A', cap', rfl, _, _, hrd⟩ := own_form hO
        have HRd := Lib.hid hrd
        clear hO hrd
        generalize fnV N (fun s => dst y f (N - 1) s) = zz at *
        go_wp2_with fail
        go_ret2
        exact ⟨A', cap', rfl, HRd.out, HB3.out.trans (HB.out.mono HB3.out.size)⟩
      | succ d =>
        have hzl : zs.length < N := by
          have h1 := congrArg List.length HPm.out
          rw [List.length_append] at h1
          have h2 := HPl.out
          omega
        obtain ⟨b, o, u, eA, hbb, hu, hcell⟩ := HGr.out.rd.at_ hsN
        obtain ⟨g', c', rfl, hrd⟩ := (HGr.out.row s u hu).1 HIn.out
        have HKb := Lib.hid (fun W (hW : Below w3.heap.size w3 W) => (hW.cell (p := ⟨b, o + s, none⟩) hbb).trans hcell)
        have HRow := Lib.hid hrd
        have HNe := Lib.hid (dst_next HD.out)
        subst eA
        clear hu hcell hrd
        obtain ⟨zz, hzz⟩ : ∃ zz, zz = fnV N (fun s => dst y f (N - 1) s) := ⟨_, rfl⟩
        rw [← hzz] at gz c9
        have HZZ := Lib.hid hzz
        push_cast at gz
        have hdp : ((0 : Int) < (d : Int) + 1) := by omega
        have hd512 : (d : Int) < 512 := by
          have h1 := dst_rng (y := y) (found := f) (N - 1) (s : Int)
          rw [HD.out] at h1
          omega
        have hwr : IntKind.i64.wrap (d : Int) = (d : Int) := by rw [IntKind.wrap_i64]; omega
        clear hzz
        go_wp2_with fail
        go_loopw [8, 9, 10] (fun v8 v9 i wx => ∃ k : Nat, k ≤ n1 ∧ v8 = .int .i64 (s : Int) ∧ v9 = u9 ∧ i = .int .i64 (k : Int) ∧ Hid (∀ i, i < k → (freeS y s i && dst y f (N - 1) (nextS y s i) == (d : Int)) = false) ∧ Below wr.heap.size wr wx) (fun _ _ i _ => n1 - (intOf i).toNat)
        case atStart => exact ⟨0, by omega, rfl, rfl, rfl, Lib.hid (fun i hi => absurd hi (by omega)), Below.refl _ _⟩
        case round =>
          obtain ⟨k, hk, rfl, rfl, rfl, hno, hbx⟩ := hrel
          have hsx := hbx.size
          have HBx := Lib.hid (HB.out.trans (hbx.mono hsr))
          have HOx := Lib.hid (own_kept HO.out hbx)
          have hs0x := HBx.out.size
          have HNo := Lib.hid hno.out
          have HBi := Lib.hid hbx
          clear hbx hno
          have HBw := Lib.hid (HB3.out.trans (HBx.out.mono HB3.out.size))
          have hsw := HBw.out.size
          have kb := HKb.out _ HBx.out
          have hbw : b < wr.heap.size := by omega
          have kY := BY3.out.kept HBx.out
          have k9 := Z93.out.kept HBx.out
          rw [← HZZ.out] at k9
          have cY := kY.cell
          have lY := kY.lt
          have c9 := k9.cell
          have l9 := k9.lt
          clear kY k9
          by_cases hklt : k < n1
          · have hky : k < y.w.length := by rw [HL1.out]; exact hklt
            obtain ⟨b', o', u', eA', hbb', hu', hcell'⟩ := HRow.out.at_ (k := k) hky
            cases eA'
            obtain rfl : u' = .int .i64 (gCell y s k) := by
              rw [List.getElem?_map, gRow_get hky] at hu'
              exact (Option.some.inj hu').symm
            have zb := (HBx.out.cell (p := ⟨g', 0 + k, none⟩) hbb').trans hcell'
            rw [Nat.zero_add] at zb
            have hgw : g' < wr.heap.size := by omega
            have hlw := HL1.out
            clear hu' hcell' hbb'
            by_cases hst : (freeS y s k && dst y f (N - 1) (nextS y s k) == (d : Int)) = true
            · obtain ⟨hf, hdt⟩ := Bool.and_eq_true_iff.1 hst
              have hdt' : dst y f (N - 1) (nextS y s k) = (d : Int) := by simpa using hdt
              obtain ⟨t, ht, htN⟩ := HNx.out s k
              rw [show gCell y s k = (t : Int) by unfold gCell; rw [hf, ht]; rfl] at zb
              have gt := fnV_get (F := fun s => dst y f (N - 1) s) htN
              rw [← HZZ.out] at gt
              have htN' : (t : Int) < (N : Int) := by omega
              rw [ht] at hdt'
              simp only [hdt'] at gt
              have HIn' := Lib.hid (reach_step HIn.out hky hf)
              rw [ht] at HIn'
              have HPm' : Hid ((zs ++ [y.w[k].n]) ++ (ordG y f (N - 1) d t).map (swNm y) = p.m.map (swNm y)) := by
                show _ = _
                have h1 := HPm.out
                rw [ord_step hky HNo.out hst, ht, List.map_cons, show swNm y (k : Int) = y.w[k].n by simp [swNm, hky]] at h1
                rw [← h1]
                simp
              obtain ⟨b2, o2, eA2, hbb2, zn, _⟩ := HSw.out k hky
              have HDt := Lib.hid hdt'
              have HZn := Lib.hid (fun W (hW : Below w.heap.size w W) => (hW.cell (p := ⟨b2, o2 + k * 5, none⟩) (by simp; omega)).trans zn)
              subst eA2
              clear hst hf hdt hdt' ht zn
              generalize y.w[k].n = nm at *
              go_wp2_with fail
              (refine wp_region_calm [] [0, 1, 2, 3, 4, 5, 6, 7, 8, 9, 10, 11, 12, 13] 0 (by kernel_rfl) rfl (by kernel_rfl) (by kernel_rfl) (by kernel_rfl) ?_; simp only [pickB, List.filterMap_cons, List.filterMap_nil, List.getElem?_toArray, List.getElem?_cons_zero, List.getElem?_cons_succ]; (repeat (first | ((with_reducible refine quietL_plain rfl (fun K hK => ?_)); (apply Exists.intro; refine ⟨fun wx hx => ?_, ?_⟩; (· (have hcx := ifs_ex hx); simp [go_sem, *, ↓IntWalk.iteOmega] <;> (first | rfl | exact ⟨rfl, rfl⟩ | fail)); (simp only [Act.put, List.setIfInBounds_toArray, List.set_cons_zero, List.set_cons_succ]; refine hK _ ?_; clear hK K))) | ((with_reducible refine quietL_skip (by with_unfolding_all rfl) ?_); simp only [Act.put, List.setIfInBounds_toArray, List.set_cons_zero, List.set_cons_succ]) | ((with_reducible refine quietL_want (by with_unfolding_all rfl) (fun K hK => ?_)); (apply Exists.intro; refine ⟨fun wx hx => ?_, ?_⟩; (· (have hcx := ifs_ex hx); simp [go_sem, *, ↓IntWalk.iteOmega] <;> (first | rfl | exact ⟨rfl, rfl⟩ | fail)); (simp only [Act.put, List.setIfInBounds_toArray, List.set_cons_zero, List.set_cons_succ]; refine hK _ ?_; clear hK K))))); refine quietL_nil ?_)
              (refine anyB_end (by kernel_rfl) ?_; intro wz hbz; have hsz := hbz.size; (try simp at hsz); simp only [Calm])
              have HBz := Lib.hid (HBx.out.trans (hbz.mono hs0x))
              have HBzw := Lib.hid (HBw.out.trans (hbz.mono hsw))
              have HOz := Lib.hid (own_kept HOx.out hbz)
              have kz := HZn.out _ HBzw.out
              have kY := BY3.out.kept HBz.out
              have cY := kY.cell
              have lY := kY.lt
              have hszz := HBzw.out.size
              have hs3z := HBz.out.size
              have hb2z : b2 < wz.heap.size := by omega
              clear kY hbz c9 gz gt zb kb
              go_wp2_with (at_builtin; refine wpList_app 56 9 1 16 elemStr rfl (.tmp 58) (.tmp 65) rfl w3.heap.size _ zs.length _ rfl HOz.out 1 rfl rfl ?h1 (by decide) ?h3 (by omega) (by omega) ?_)
              case h1 => rfl
              case h3 => unfold maxLen; omega
              intro g2 cap2 w' hown' hb' hk' hs'
              have HB' := Lib.hid (HBz.out.trans (hb'.mono (Nat.le_refl _)))
              have HO' := Lib.hid hown'
              clear hown' hb' hk' hs'
              go_wp2
              refine ⟨⟨t, d, zs ++ [nm], rfl, htN, HIn'.out, HDt, HPm', by rw [List.length_append, List.map_append]; exact HO'.out, HB'.out⟩, ?_⟩
              show (dst y f (N - 1) (t : Int)).toNat < (dst y f (N - 1) (s : Int)).toNat
              rw [HDt.out, HD.out]
              omega
            · have hst' : (freeS y s k && dst y f (N - 1) (nextS y s k) == (d : Int)) = false := by simpa using hst
              have HNo' := Lib.hid (show ∀ i, i < k + 1 → (freeS y s i && dst y f (N - 1) (nextS y s i) == (d : Int)) = false from fun i hi => by
                rcases Nat.lt_succ_iff_lt_or_eq.1 hi with h | h
                · exact HNo.out i h
                · rw [h]; exact hst')
              cases hf : freeS y s k with
              | false =>
                rw [show gCell y s k = -1 by unfold gCell; rw [hf]; rfl] at zb
                clear hst hst' hf
                go_wp2_with fail
                (refine wp_region_calm [] [0, 1, 2, 3, 4, 5, 6, 7, 8, 9, 10, 11, 12, 13] 0 (by kernel_rfl) rfl (by kernel_rfl) (by kernel_rfl) (by kernel_rfl) ?_; simp only [pickB, List.filterMap_cons, List.filterMap_nil, List.getElem?_toArray, List.getElem?_cons_zero, List.getElem?_cons_succ]; (repeat (first | ((with_reducible refine quietL_plain rfl (fun K hK => ?_)); (apply Exists.intro; refine ⟨fun wx hx => ?_, ?_⟩; (· (have hcx := ifs_ex hx); simp [go_sem, *, ↓IntWalk.iteOmega] <;> (first | rfl | exact ⟨rfl, rfl⟩ | fail)); (simp only [Act.put, List.setIfInBounds_toArray, List.set_cons_zero, List.set_cons_succ]; refine hK _ ?_; clear hK K))) | ((with_reducible refine quietL_skip (by with_unfolding_all rfl) ?_); simp only [Act.put, List.setIfInBounds_toArray, List.set_cons_zero, List.set_cons_succ]) | ((with_reducible refine quietL_want (by with_unfolding_all rfl) (fun K hK => ?_)); (apply Exists.intro; refine ⟨fun wx hx => ?_, ?_⟩; (· (have hcx := ifs_ex hx); simp [go_sem, *, ↓IntWalk.iteOmega] <;> (first | rfl | exact ⟨rfl, rfl⟩ | fail)); (simp only [Act.put, List.setIfInBounds_toArray, List.set_cons_zero, List.set_cons_succ]; refine hK _ ?_; clear hK K))))); refine quietL_nil ?_)
                (refine anyB_end (by kernel_rfl) ?_; intro wz hbz; have hsz := hbz.size; (try simp at hsz); simp only [Calm])
                go_wp2_with fail
                refine ⟨⟨k + 1, by omega, rfl, rfl, by simp, HNo', HBi.out.trans (hbz.mono HBi.out.size)⟩, ?_⟩
                simp only [intOf]
                omega
              | true =>
                obtain ⟨t, ht, htN⟩ := HNx.out s k
                rw [show gCell y s k = (t : Int) by unfold gCell; rw [hf, ht]; rfl] at zb
                have gt := fnV_get (F := fun s => dst y f (N - 1) s) htN
                rw [← HZZ.out] at gt
                have htN' : (t : Int) < (N : Int) := by omega
                have hdt : dst y f (N - 1) (t : Int) ≠ (d : Int) := by
                  intro h
                  rw [hf, ht, h] at hst'
                  simp at hst'
                clear hst hst' hf ht
                generalize dst y f (N - 1) (t : Int) = tv at *
                go_wp2_with fail
                (refine wp_region_calm [] [0, 1, 2, 3, 4, 5, 6, 7, 8, 9, 10, 11, 12, 13] 0 (by kernel_rfl) rfl (by kernel_rfl) (by kernel_rfl) (by kernel_rfl) ?_; simp only [pickB, List.filterMap_cons, List.filterMap_nil, List.getElem?_toArray, List.getElem?_cons_zero, List.getElem?_cons_succ]; (repeat (first | ((with_reducible refine quietL_plain rfl (fun K hK => ?_)); (apply Exists.intro; refine ⟨fun wx hx => ?_, ?_⟩; (· (have hcx := ifs_ex hx); simp [go_sem, *, ↓IntWalk.iteOmega] <;> (first | rfl | exact ⟨rfl, rfl⟩ | fail)); (simp only [Act.put, List.setIfInBounds_toArray, List.set_cons_zero, List.set_cons_succ]; refine hK _ ?_; clear hK K))) | ((with_reducible refine quietL_skip (by with_unfolding_all rfl) ?_); simp only [Act.put, List.setIfInBounds_toArray, List.set_cons_zero, List.set_cons_succ]) | ((with_reducible refine quietL_want (by with_unfolding_all rfl) (fun K hK => ?_)); (apply Exists.intro; refine ⟨fun wx hx => ?_, ?_⟩; (· (have hcx := ifs_ex hx); simp [go_sem, *, ↓IntWalk.iteOmega] <;> (first | rfl | exact ⟨rfl, rfl⟩ | fail)); (simp only [Act.put, List.setIfInBounds_toArray, List.set_cons_zero, List.set_cons_succ]; refine hK _ ?_; clear hK K))))); refine quietL_nil ?_)
                (refine anyB_end (by kernel_rfl) ?_; intro wz hbz; have hsz := hbz.size; (try simp at hsz); simp only [Calm])
                go_wp2_with fail
                refine ⟨⟨k + 1, by omega, rfl, rfl, by simp, HNo', HBi.out.trans (hbz.mono HBi.out.size)⟩, ?_⟩
                simp only [intOf]
                omega
          · obtain rfl : n1 = k := by omega
            obtain ⟨k', h1, h2, h3⟩ := HNe.out
            have := HNo.out k' (by have := HL1.out; omega)
            rw [h2, h3] at this
            simp at this
end Go.Proofs.YtphlojgmfkgeiaaGreatDoor
