/- Reference: the text of a yard. -/
import Derived.Test.YtphlojgmfkgeiaaGreatDoorQX
namespace Go.Proofs.YtphlojgmfkgeiaaGreatDoor
open Go.RowKit Go.Sort Go.Shelf
set_option linter.unusedSimpArgs false
set_option linter.unusedVariables false
attribute [local go_sem] cell_if frozen_if grow_cell
theorem cat_lit (a b : List UInt8) : toB a ++ toB b = toB (a ++ b) := toB_app a b
theorem line_sec (t : List UInt8) (n wd : ByteArray) : toB t ++ ⟨#[115, 101, 99, 116, 105, 111, 110, 32]⟩ ++ n ++ ⟨#[32]⟩ ++ wd ++ ⟨#[10]⟩ = toB (t ++ lineL [⟨#[115, 101, 99, 116, 105, 111, 110]⟩, n, wd]) := by
 apply ByteArray.ext
 apply Array.toList_inj.1
 simp [toB, lineL, Lib.join, List.intercalate, List.intersperse]
theorem line_pm (t : List UInt8) (n wd : ByteArray) : toB t ++ ⟨#[112, 101, 114, 109, 105, 116, 32]⟩ ++ n ++ ⟨#[32]⟩ ++ wd ++ ⟨#[10]⟩ = toB (t ++ lineL [⟨#[112, 101, 114, 109, 105, 116]⟩, n, wd]) := by
 apply ByteArray.ext
 apply Array.toList_inj.1
 simp [toB, lineL, Lib.join, List.intercalate, List.intersperse]
theorem line_ea (t : List UInt8) (k n a wd : ByteArray) : toB t ++ k ++ ⟨#[32]⟩ ++ n ++ ⟨#[32]⟩ ++ a ++ ⟨#[32]⟩ ++ wd ++ ⟨#[10]⟩ = toB (t ++ lineL [k, n, a, wd]) := by
 apply ByteArray.ext
 apply Array.toList_inj.1
 simp [toB, lineL, Lib.join, List.intercalate, List.intersperse]
theorem line_br (t : List UInt8) (k n a b wd : ByteArray) : toB t ++ k ++ ⟨#[32]⟩ ++ n ++ ⟨#[32]⟩ ++ a ++ ⟨#[32]⟩ ++ b ++ ⟨#[32]⟩ ++ wd ++ ⟨#[10]⟩ = toB (t ++ lineL [k, n, a, b, wd]) := by
 apply ByteArray.ext
 apply Array.toList_inj.1
 simp [toB, lineL, Lib.join, List.intercalate, List.intersperse]
theorem size_toB (l : List UInt8) : (toB l).size = l.length := by show l.toArray.size = _; simp
set_option maxRecDepth 100000 in
set_option maxHeartbeats 4000000 in
theorem rPrint_any (B : Nat) (A0 A1 A2 : Option Addr) (n0 n1 n2 c0 c1 c2 : Nat) (y : Yd) (w : World) (hY : YdAt w B A0 A1 A2 n0 n1 n2 y) (hB : B ≤ w.heap.size) (hE : yardE y = 0) (hF : Fits y) :
 Calls Tryz.prog 75 #[.agg #[.slice A0 n0 c0, .slice A1 n1 c1, .slice A2 n2 c2]] w fun e w' => e = .returned (.string (toB (printL y))) ∧ Below w.heap.size w w' := by
 obtain ⟨hl0, ha0⟩ := sec_at hY.hs
 obtain ⟨hl1, ha1⟩ := sw_at hY.hw
 obtain ⟨hl2, ha2⟩ := pm_at hY.hp
 have hP := Lib.hid (yard_ok hE).1
 have hN := Lib.hid (names_of hE)
 have hPL := Lib.hid (fun j k => printL_len hN.out ⟨hF.s9, hF.w9⟩ j k)
 have h9 := hF.s9
 have h9' := hF.w9
 have h9'' := hF.p9
 have HPr : Hid (printL y = (y.s.flatMap fun x => lineL (secW x)) ++ (y.w.flatMap fun x => lineL (swW y x)) ++ (y.p.flatMap fun x => lineL (pmW y x))) := Lib.hid rfl
 have HA0 := Lib.hid ha0
 have HA1 := Lib.hid ha1
 have HA2 := Lib.hid ha2
 have HL0 := Lib.hid hl0
 have HL1 := Lib.hid hl1
 have HL2 := Lib.hid hl2
 clear hE hF hY ha0 ha1 ha2 hl0 hl1 hl2
 go_enter Tryz.func75, Tryz.ntmps75
 go_wp2_with fail
 go_loopw [3, 4] (fun s i wr => ∃ (k : Nat) (t : ByteArray), k ≤ n0 ∧ i = .int .i64 k ∧ s = .string t ∧ Hid (t = toB ((y.s.take k).flatMap fun x => lineL (secW x))) ∧ Blk wr w.heap.size 26 #[.slice A0 n0 c0, .slice A1 n1 c1, .slice A2 n2 c2] ∧ Below w.heap.size w wr) (fun _ i _ => n0 - (intOf i).toNat)
 case atStart => exact ⟨0, ⟨#[]⟩, by omega, rfl, rfl, Lib.hid rfl, bk_, bl_⟩
 case round =>
  obtain ⟨k, t, hk, rfl, rfl, HTt, bY, hb⟩ := hrel
  have hsr := hb.size
  have cY := bY.cell
  have lY := bY.lt
  have BY := Lib.hid bY
  clear bY
  by_cases hlt : k < n0
  · skip
    as_aux_lemma =>
     have hkl : k < y.s.length := by rw [HL0.out]; exact hlt
     obtain ⟨b, o, eA, hbb, z0, z1⟩ := HA0.out k hkl
     have kb : ∀ i, wr.cell? ⟨b, i, none⟩ = w.cell? ⟨b, i, none⟩ := fun i => hb.cell (p := ⟨b, i, none⟩) (by simp; omega)
     rw [← kb] at z0 z1
     clear kb
     subst eA
     have HS := Lib.hid (fm_take (fun x => lineL (secW x)) y.s k hkl)
     have hz := hN.out.s y.s[k] (List.getElem_mem hkl)
     have htx : t.size ≤ 4000 := by rw [HTt.out, size_toB]; have := (hPL.out k 0).1; omega
     generalize ((y.s.take k).flatMap fun x => lineL (secW x)) = tx at *
     generalize y.s[k] = x at *
     obtain ⟨xn, xs⟩ := x
     dsimp only at z0 z1 hz
     have HWd := Lib.hid (fun W => word_any xs ⟨#[115, 111, 117, 114, 99, 101]⟩ ⟨#[112, 108, 97, 105, 110]⟩ W)
     have hwd : (if xs then (⟨#[115, 111, 117, 114, 99, 101]⟩ : ByteArray) else ⟨#[112, 108, 97, 105, 110]⟩).size ≤ 24 := by cases xs <;> decide
     have HR : Hid (t ++ ⟨#[115, 101, 99, 116, 105, 111, 110, 32]⟩ ++ xn ++ ⟨#[32]⟩ ++ (if xs then (⟨#[115, 111, 117, 114, 99, 101]⟩ : ByteArray) else ⟨#[112, 108, 97, 105, 110]⟩) ++ ⟨#[10]⟩ = toB (tx ++ lineL (secW ⟨xn, xs⟩))) := Lib.hid (by rw [HTt.out, line_sec]; rfl)
     generalize (if xs then (⟨#[115, 111, 117, 114, 99, 101]⟩ : ByteArray) else ⟨#[112, 108, 97, 105, 110]⟩) = wd at *
     have hbw : b < wr.heap.size := by omega
     go_wp2_with fail
     (refine wp_region_calm [] [0, 1, 2, 3, 4, 5, 6, 7, 8, 9, 10, 11, 12, 13, 14, 15, 16, 17, 18] 1 (by kernel_rfl) rfl (by kernel_rfl) (by kernel_rfl) (by kernel_rfl) ?_; simp only [pickB, List.filterMap_cons, List.filterMap_nil, List.getElem?_toArray, List.getElem?_cons_zero, List.getElem?_cons_succ]; (repeat (first | ((first | (with_reducible refine quietL_plain rfl (fun K hK => ?_)) | (with_reducible refine quietL_want (by with_unfolding_all rfl) (fun K hK => ?_))); (apply Exists.intro; refine ⟨fun wx hx => ?_, ?_⟩; (· (have hcx := ifs_ex hx); simp [go_sem, *, ↓IntWalk.iteOmega] <;> (first | rfl | exact ⟨rfl, rfl⟩ | exact calls_B (calls_below (HWd.out _)))); (simp only [Act.put, List.setIfInBounds_toArray, List.set_cons_zero, List.set_cons_succ]; refine hK _ ?_; clear hK K))) | ((with_reducible refine quietL_skip (by with_unfolding_all rfl) ?_); simp only [Act.put, List.setIfInBounds_toArray, List.set_cons_zero, List.set_cons_succ]))); refine quietL_nil ?_)
     (refine anyB_one (i := 19) (by kernel_rfl) rfl rfl ?_; intro w2 hb2 K hK; obtain ⟨hc2, hf2⟩ := ifs_of hb2; have hs2 := hb2.size; (try simp at hs2); go_wp2; refine ⟨xs_, ?_⟩)
     (refine anyB_end (by kernel_rfl) ?_; intro w3 hb3; obtain ⟨hc3, hf3⟩ := ifs_of hb3; have hs3 := hb3.size; (try simp at hs3); simp only [Calm]; go_wp2_with fail)
     go_roundw
     case rel => exact ⟨k + 1, _, by omega, by go_num, rfl, Lib.hid (by rw [HR.out, HS.out]), BY.out.kept bl_, bl_⟩
     case measure => simp [intOf]; omega
  · obtain rfl : k = n0 := by omega
    have hT1 : Hid ((y.s.take k).flatMap (fun x => lineL (secW x)) = y.s.flatMap fun x => lineL (secW x)) := by show _ = _; rw [List.take_of_length_le (by rw [HL0.out]; exact Nat.le_refl _)]
    have hlen1 := Lib.hid (hPL.out k 0).1
    rw [hT1.out] at hlen1 HTt
    generalize (y.s.flatMap fun x => lineL (secW x)) = T1 at *
    clear hlt hk hT1
    have HT0 : Hid (t = toB T1) := HTt
    clear HTt
    go_wp2_with fail
    go_loopw [3, 5] (fun s i wr => ∃ (j : Nat) (t : ByteArray), j ≤ n1 ∧ i = .int .i64 j ∧ s = .string t ∧ Hid (t = toB (T1 ++ ((y.w.take j).flatMap fun x => lineL (swW y x)))) ∧ Blk wr w.heap.size 26 #[.slice A0 k c0, .slice A1 n1 c1, .slice A2 n2 c2] ∧ Below w.heap.size w wr) (fun _ i _ => n1 - (intOf i).toNat)
    case atStart => exact ⟨0, t, by omega, rfl, rfl, Lib.hid (by rw [HT0.out]; simp), BY.out, hb⟩
    case round =>
     clear cY lY hb hsr BY HT0
     obtain ⟨j, t, hk, rfl, rfl, HTt, bY, hb⟩ := hrel
     have hsr := hb.size
     have cY := bY.cell
     have lY := bY.lt
     have BY := Lib.hid bY
     clear bY
     by_cases hlt : j < n1
     · skip
       as_aux_lemma =>
        have hkl : j < y.w.length := by rw [HL1.out]; exact hlt
        obtain ⟨b, o, eA, hbb, z0, z1, z2, z3, z4⟩ := HA1.out j hkl
        have kb : ∀ b i, b < B → wr.cell? ⟨b, i, none⟩ = w.cell? ⟨b, i, none⟩ := fun b i h => hb.cell (p := ⟨b, i, none⟩) (by simp; omega)
        rw [← kb b _ hbb] at z0 z1 z2 z3 z4
        subst eA
        have HS := Lib.hid (fm_take (fun x => lineL (swW y x)) y.w j hkl)
        have hz := hN.out.w y.w[j] (List.getElem_mem hkl)
        have hxa := hP.out.sa y.w[j] (List.getElem_mem hkl)
        have hxb := Lib.hid (hP.out.sb y.w[j] (List.getElem_mem hkl))
        have htx : t.size ≤ 4000 := by
         rw [HTt.out, size_toB, List.length_append]
         have := (hPL.out 0 j).2.1
         have := hlen1.out
         omega
        generalize ((y.w.take j).flatMap fun x => lineL (swW y x)) = tx at *
        generalize y.w[j] = x at *
        obtain ⟨xn, xk, xa, xb, xc⟩ := x
        dsimp only at z0 z1 z2 z3 z4 hz hxa hxb
        obtain ⟨hz1, hz2⟩ := hz
        obtain ⟨ia, rfl⟩ := Int.eq_ofNat_of_zero_le hxa.1
        have hia : ia < y.s.length := by omega
        have hiak : (ia : Int) < (k : Int) := by have := HL0.out; omega
        obtain ⟨b2, o2, eA2, hbb2, u0, u1⟩ := HA0.out ia hia
        rw [← kb b2 _ hbb2] at u0
        clear u1
        have HNA := Lib.hid (nmS_get hia)
        have hna := nmS_24 hN.out (ia : Int)
        rw [← HNA.out] at u0
        subst eA2
        have hbw : b < wr.heap.size := by omega
        have hbw2 : b2 < wr.heap.size := by omega
        have HWd := Lib.hid (fun W => word_any xc ⟨#[99, 108, 111, 115, 101, 100]⟩ ⟨#[111, 112, 101, 110]⟩ W)
        have hwd : (if xc then (⟨#[99, 108, 111, 115, 101, 100]⟩ : ByteArray) else ⟨#[111, 112, 101, 110]⟩).size ≤ 24 := by cases xc <;> decide
        cases h0 : (xk.toList == [101, 97, 114, 116, 104]) with
        | true =>
         as_aux_lemma =>
          have HR : Hid (t ++ xk ++ ⟨#[32]⟩ ++ xn ++ ⟨#[32]⟩ ++ nmS y (ia : Int) ++ ⟨#[32]⟩ ++ (if xc then (⟨#[99, 108, 111, 115, 101, 100]⟩ : ByteArray) else ⟨#[111, 112, 101, 110]⟩) ++ ⟨#[10]⟩ = toB (T1 ++ (tx ++ lineL (swW y ⟨xn, xk, ia, xb, xc⟩)))) := Lib.hid (by
           have e : swW y ⟨xn, xk, ia, xb, xc⟩ = [xk, xn, nmS y (ia : Int), if xc then (⟨#[99, 108, 111, 115, 101, 100]⟩ : ByteArray) else ⟨#[111, 112, 101, 110]⟩] := by
            unfold swW
            rw [if_pos (show (xk.toList == earthL) = true from h0)]
            rfl
           rw [HTt.out, line_ea, List.append_assoc T1, e])
          clear HNA kb HTt hxb
          generalize nmS y (ia : Int) = na at *
          generalize (if xc then (⟨#[99, 108, 111, 115, 101, 100]⟩ : ByteArray) else ⟨#[111, 112, 101, 110]⟩) = wd at *
          go_wp2_with fail
          (refine wp_region_calm [] [0, 1, 2, 3, 4, 5, 6, 7, 8, 9, 10, 11, 12, 13, 14, 15, 16, 17] 1 (by kernel_rfl) rfl (by kernel_rfl) (by kernel_rfl) (by kernel_rfl) ?_; simp only [pickB, List.filterMap_cons, List.filterMap_nil, List.getElem?_toArray, List.getElem?_cons_zero, List.getElem?_cons_succ]; (repeat (first | ((first | (with_reducible refine quietL_plain rfl (fun K hK => ?_)) | (with_reducible refine quietL_want (by with_unfolding_all rfl) (fun K hK => ?_))); (apply Exists.intro; refine ⟨fun wx hx => ?_, ?_⟩; (· (have hcx := ifs_ex hx); simp [go_sem, *, ↓IntWalk.iteOmega] <;> (first | rfl | exact ⟨rfl, rfl⟩ | fail)); (simp only [Act.put, List.setIfInBounds_toArray, List.set_cons_zero, List.set_cons_succ]; refine hK _ ?_; clear hK K))) | ((with_reducible refine quietL_skip (by with_unfolding_all rfl) ?_); simp only [Act.put, List.setIfInBounds_toArray, List.set_cons_zero, List.set_cons_succ]))); refine quietL_nil ?_)
          (refine anyB_one (i := 18) (by kernel_rfl) rfl rfl ?_; intro w2 hb2 K hK; obtain ⟨hc2, hf2⟩ := ifs_of hb2; have hs2 := hb2.size; (try simp at hs2); go_wp2; refine ⟨xs_, ?_⟩)
          (refine anyB_end (by kernel_rfl) ?_; intro w3 hb3; obtain ⟨hc3, hf3⟩ := ifs_of hb3; have hs3 := hb3.size; (try simp at hs3); simp only [Calm]; go_wp2_with fail)
          refine (HWd.out _).mono ?_
          rintro e w4 ⟨rfl, rfl⟩
          go_wp2_with fail
          go_roundw
          case rel => exact ⟨j + 1, _, by omega, by go_num, rfl, Lib.hid (by rw [HR.out, HS.out]), BY.out.kept bl_, bl_⟩
          case measure => simp [intOf]; omega
        | false =>
         as_aux_lemma =>
          obtain ⟨b0, b1⟩ := hxb.out h0
          obtain ⟨ib, rfl⟩ := Int.eq_ofNat_of_zero_le b0
          have hib : ib < y.s.length := by omega
          have hibk : (ib : Int) < (k : Int) := by have := HL0.out; omega
          obtain ⟨b3, o3, eA3, hbb3, v0, v1⟩ := HA0.out ib hib
          rw [← kb b3 _ hbb3] at v0
          clear v1
          have HNB := Lib.hid (nmS_get hib)
          have hnb := nmS_24 hN.out (ib : Int)
          rw [← HNB.out] at v0
          cases eA3
          have HR : Hid (t ++ xk ++ ⟨#[32]⟩ ++ xn ++ ⟨#[32]⟩ ++ nmS y (ia : Int) ++ ⟨#[32]⟩ ++ nmS y (ib : Int) ++ ⟨#[32]⟩ ++ (if xc then (⟨#[99, 108, 111, 115, 101, 100]⟩ : ByteArray) else ⟨#[111, 112, 101, 110]⟩) ++ ⟨#[10]⟩ = toB (T1 ++ (tx ++ lineL (swW y ⟨xn, xk, ia, ib, xc⟩)))) := Lib.hid (by
           have e : swW y ⟨xn, xk, ia, ib, xc⟩ = [xk, xn, nmS y (ia : Int), nmS y (ib : Int), if xc then (⟨#[99, 108, 111, 115, 101, 100]⟩ : ByteArray) else ⟨#[111, 112, 101, 110]⟩] := by
            unfold swW
            rw [if_neg (by rw [show (xk.toList == earthL) = false from h0]; decide)]
            rfl
           rw [HTt.out, line_br, List.append_assoc T1, e])
          clear HNA HNB kb HTt hxb
          generalize nmS y (ia : Int) = na at *
          generalize nmS y (ib : Int) = nb at *
          generalize (if xc then (⟨#[99, 108, 111, 115, 101, 100]⟩ : ByteArray) else ⟨#[111, 112, 101, 110]⟩) = wd at *
          go_wp2_with fail
          (refine wp_region_calm [] [0, 1, 2, 3, 4, 5, 6, 7, 8, 9, 10, 11, 12, 13, 14, 15, 16, 17] 1 (by kernel_rfl) rfl (by kernel_rfl) (by kernel_rfl) (by kernel_rfl) ?_; simp only [pickB, List.filterMap_cons, List.filterMap_nil, List.getElem?_toArray, List.getElem?_cons_zero, List.getElem?_cons_succ]; (repeat (first | ((first | (with_reducible refine quietL_plain rfl (fun K hK => ?_)) | (with_reducible refine quietL_want (by with_unfolding_all rfl) (fun K hK => ?_))); (apply Exists.intro; refine ⟨fun wx hx => ?_, ?_⟩; (· (have hcx := ifs_ex hx); simp [go_sem, *, ↓IntWalk.iteOmega] <;> (first | rfl | exact ⟨rfl, rfl⟩ | fail)); (simp only [Act.put, List.setIfInBounds_toArray, List.set_cons_zero, List.set_cons_succ]; refine hK _ ?_; clear hK K))) | ((with_reducible refine quietL_skip (by with_unfolding_all rfl) ?_); simp only [Act.put, List.setIfInBounds_toArray, List.set_cons_zero, List.set_cons_succ]))); refine quietL_nil ?_)
          (refine anyB_one (i := 18) (by kernel_rfl) rfl rfl ?_; intro w2 hb2 K hK; obtain ⟨hc2, hf2⟩ := ifs_of hb2; have hs2 := hb2.size; (try simp at hs2); go_wp2; refine ⟨xs_, ?_⟩)
          (refine anyB_end (by kernel_rfl) ?_; intro w3 hb3; obtain ⟨hc3, hf3⟩ := ifs_of hb3; have hs3 := hb3.size; (try simp at hs3); simp only [Calm]; go_wp2_with fail)
          refine (HWd.out _).mono ?_
          rintro e w4 ⟨rfl, rfl⟩
          go_wp2_with fail
          go_roundw
          case rel => exact ⟨j + 1, _, by omega, by go_num, rfl, Lib.hid (by rw [HR.out, HS.out]), BY.out.kept bl_, bl_⟩
          case measure => simp [intOf]; omega
     · obtain rfl : j = n1 := by omega
       have hT2 : Hid ((y.w.take j).flatMap (fun x => lineL (swW y x)) = y.w.flatMap fun x => lineL (swW y x)) := by show _ = _; rw [List.take_of_length_le (by rw [HL1.out]; exact Nat.le_refl _)]
       have hlen2 := Lib.hid (hPL.out 0 j).2.1
       rw [hT2.out] at hlen2 HTt
       generalize (y.w.flatMap fun x => lineL (swW y x)) = T2 at *
       clear hlt hk hT2
       have HT0 : Hid (t = toB (T1 ++ T2)) := HTt
       clear HTt
       go_wp2_with fail
       go_loopw [3, 7] (fun s i wr => ∃ (q : Nat) (t : ByteArray), q ≤ n2 ∧ i = .int .i64 q ∧ s = .string t ∧ Hid (t = toB (T1 ++ T2 ++ ((y.p.take q).flatMap fun x => lineL (pmW y x)))) ∧ Blk wr w.heap.size 26 #[.slice A0 k c0, .slice A1 j c1, .slice A2 n2 c2] ∧ Below w.heap.size w wr) (fun _ i _ => n2 - (intOf i).toNat)
       case atStart => exact ⟨0, t, by omega, rfl, rfl, Lib.hid (by rw [HT0.out]; simp), BY.out, hb⟩
       case round =>
        clear cY lY hb hsr BY HT0
        obtain ⟨q, t, hk, rfl, rfl, HTt, bY, hb⟩ := hrel
        have hsr := hb.size
        have cY := bY.cell
        have lY := bY.lt
        have BY := Lib.hid bY
        clear bY
        by_cases hlt : q < n2
        · skip
          as_aux_lemma =>
           have hkl : q < y.p.length := by rw [HL2.out]; exact hlt
           obtain ⟨b, o, eA, hbb, z0, z1⟩ := HA2.out q hkl
           have kb : ∀ b i, b < B → wr.cell? ⟨b, i, none⟩ = w.cell? ⟨b, i, none⟩ := fun b i h => hb.cell (p := ⟨b, i, none⟩) (by simp; omega)
           rw [← kb b _ hbb] at z0 z1
           subst eA
           have HS := Lib.hid (fm_take (fun x => lineL (pmW y x)) y.p q hkl)
           have hz := hN.out.p y.p[q] (List.getElem_mem hkl)
           have hxs := hP.out.ps y.p[q] (List.getElem_mem hkl)
           have htx : t.size ≤ 4000 := by
            rw [HTt.out, size_toB, List.length_append, List.length_append]
            have h1 := fm_len (l := y.p.take q) (fun x hx => (hPL.out 0 0).2.2.2.2 x (List.mem_of_mem_take hx))
            have h2 := List.length_take_le' q y.p
            have := hlen1.out
            have := hlen2.out
            omega
           generalize ((y.p.take q).flatMap fun x => lineL (pmW y x)) = tx at *
           generalize y.p[q] = x at *
           obtain ⟨xn, xs⟩ := x
           dsimp only at z0 z1 hz hxs
           obtain ⟨ia, rfl⟩ := Int.eq_ofNat_of_zero_le hxs.1
           have hia : ia < y.s.length := by omega
           have hiak : (ia : Int) < (k : Int) := by have := HL0.out; omega
           obtain ⟨b2, o2, eA2, hbb2, u0, u1⟩ := HA0.out ia hia
           rw [← kb b2 _ hbb2] at u0
           clear u1
           have HNA := Lib.hid (nmS_get hia)
           have hna := nmS_24 hN.out (ia : Int)
           rw [← HNA.out] at u0
           subst eA2
           have hbw : b < wr.heap.size := by omega
           have hbw2 : b2 < wr.heap.size := by omega
           have HR : Hid (t ++ ⟨#[112, 101, 114, 109, 105, 116, 32]⟩ ++ xn ++ ⟨#[32]⟩ ++ nmS y (ia : Int) ++ ⟨#[10]⟩ = toB (T1 ++ T2 ++ (tx ++ lineL (pmW y ⟨xn, ia⟩)))) := Lib.hid (by rw [HTt.out, line_pm, List.append_assoc (T1 ++ T2)]; rfl)
           clear HNA kb HTt
           generalize nmS y (ia : Int) = na at *
           go_wp2_with fail
           (refine wp_region_calm [] [0, 1, 2, 3, 4, 5, 6, 7, 8, 9, 10, 11, 12, 13, 14, 15, 16, 17, 18, 19, 20, 21, 22] 1 (by kernel_rfl) rfl (by kernel_rfl) (by kernel_rfl) (by kernel_rfl) ?_; simp only [pickB, List.filterMap_cons, List.filterMap_nil, List.getElem?_toArray, List.getElem?_cons_zero, List.getElem?_cons_succ]; (repeat (first | ((first | (with_reducible refine quietL_plain rfl (fun K hK => ?_)) | (with_reducible refine quietL_want (by with_unfolding_all rfl) (fun K hK => ?_))); (apply Exists.intro; refine ⟨fun wx hx => ?_, ?_⟩; (· (have hcx := ifs_ex hx); simp [go_sem, *, ↓IntWalk.iteOmega] <;> (first | rfl | exact ⟨rfl, rfl⟩ | fail)); (simp only [Act.put, List.setIfInBounds_toArray, List.set_cons_zero, List.set_cons_succ]; refine hK _ ?_; clear hK K))) | ((with_reducible refine quietL_skip (by with_unfolding_all rfl) ?_); simp only [Act.put, List.setIfInBounds_toArray, List.set_cons_zero, List.set_cons_succ]))); refine quietL_nil ?_)
           (refine anyB_one (i := 23) (by kernel_rfl) rfl rfl ?_; intro w2 hb2 K hK; obtain ⟨hc2, hf2⟩ := ifs_of hb2; have hs2 := hb2.size; (try simp at hs2); go_wp2; refine ⟨xs_, ?_⟩)
           (refine anyB_end (by kernel_rfl) ?_; intro w3 hb3; obtain ⟨hc3, hf3⟩ := ifs_of hb3; have hs3 := hb3.size; (try simp at hs3); simp only [Calm]; go_wp2_with fail)
           go_roundw
           case rel => exact ⟨q + 1, _, by omega, by go_num, rfl, Lib.hid (by rw [HR.out, HS.out]), BY.out.kept bl_, bl_⟩
           case measure => simp [intOf]; omega
        · obtain rfl : q = n2 := by omega
          as_aux_lemma =>
           have hT3 : Hid ((y.p.take q).flatMap (fun x => lineL (pmW y x)) = y.p.flatMap fun x => lineL (pmW y x)) := by show _ = _; rw [List.take_of_length_le (by rw [HL2.out]; exact Nat.le_refl _)]
           have HRt : Hid (t = toB (printL y)) := Lib.hid (by rw [HTt.out, hT3.out, HPr.out])
           clear HTt hT3 hlt hk
           go_wp2_with fail
           go_ret
           exact ⟨by rw [HRt.out]; rfl, hb⟩
end Go.Proofs.YtphlojgmfkgeiaaGreatDoor
