/- The law PermitTexts. (UNDER WAY) -/
import Derived.Test.YtphlojgmfkgeiaaGreatDoorLS
import Derived.Test.YtphlojgmfkgeiaaGreatDoorSA
import Derived.Test.YtphlojgmfkgeiaaGreatDoorKn
import Derived.Test.YtphlojgmfkgeiaaGreatDoorGE
import Derived.Test.YtphlojgmfkgeiaaGreatDoorKl
import Derived.Test.YtphlojgmfkgeiaaGreatDoorKo
import Derived.Test.YtphlojgmfkgeiaaGreatDoorTP
import Derived.Test.YtphlojgmfkgeiaaGreatDoorTQ
namespace Go.Proofs.YtphlojgmfkgeiaaGreatDoor
open Go.RowKit Go.Sort Go.Shelf
set_option linter.unusedSimpArgs false
set_option linter.unusedVariables false
attribute [local go_sem] cell_if frozen_if grow_cell
def lensQ (y : Yd) : Prop := y.s.length ≤ 10 ∧ y.w.length ≤ 10 ∧ y.p.length ≤ 10
/-- A parsed yard is empty or valid: so it is small. -/
theorem goP_lens (f : Yd → List ByteArray → Int × Yd) : ∀ (ls : List ByteArray) (y : Yd) (i : Nat), lensQ (goP f y i ls).1
 | [], y, i => ⟨Nat.zero_le _, Nat.zero_le _, Nat.zero_le _⟩
 | [l], y, i => by
  unfold goP
  split
  · split
    · rename_i h
      have hP := (yard_ok h).1
      exact ⟨Nat.le_trans hP.n8 (by decide), Nat.le_trans hP.w8 (by decide), Nat.le_trans hP.p8 (by decide)⟩
    · exact ⟨Nat.zero_le _, Nat.zero_le _, Nat.zero_le _⟩
  · exact ⟨Nat.zero_le _, Nat.zero_le _, Nat.zero_le _⟩
 | l :: m :: r, y, i => by
  unfold goP
  split
  · exact goP_lens f (m :: r) _ _
  · exact ⟨Nat.zero_le _, Nat.zero_le _, Nat.zero_le _⟩
theorem parse_lens (s : ByteArray) : lensQ (parseR s).1 := by
 unfold parseR
 split
 · exact ⟨Nat.zero_le _, Nat.zero_le _, Nat.zero_le _⟩
 · exact goP_lens _ _ _ _
/-- What a call leaves in a block of the law: a yard. -/
structure YdQ (T : TypeId) (z : Yd) (b : Nat) (E0 E1 E2 : Option Addr) (e0 e1 e2 : Nat) (W : World) : Prop where
 blk : Blk W b T #[.slice E0 z.s.length e0, .slice E1 z.w.length e1, .slice E2 z.p.length e2]
 yd : YdAt W W.heap.size E0 E1 E2 z.s.length z.w.length z.p.length z
theorem YdQ.kept {T : TypeId} {z : Yd} {b : Nat} {E0 E1 E2 : Option Addr} {e0 e1 e2 : Nat} {W W' : World} (h : YdQ T z b E0 E1 E2 e0 e1 e2 W) (hb : Below W.heap.size W W') : YdQ T z b E0 E1 E2 e0 e1 e2 W' := ⟨h.blk.kept hb, yd_kept h.yd hb⟩
set_option maxRecDepth 1000000 in
set_option maxHeartbeats 20000000 in
theorem texts_any (A0 A1 A2 : Option Addr) (n0 n1 n2 c0 c1 c2 : Nat) (y : Yd) (s : ByteArray) (w : World) (hY : YdAt w w.heap.size A0 A1 A2 n0 n1 n2 y) (h0 : n0 ≤ maxLen) (h1 : n1 ≤ maxLen) (h2 : n2 ≤ maxLen) (hW : Wide y) (hT : Tabs w) :
 Calls Tryz.prog 12 #[.agg #[.slice A0 n0 c0, .slice A1 n1 c1, .slice A2 n2 c2], .string s] w fun e w' => e = .returned (.bool true) ∧ Below w.heap.size w w' := by
 have HY := Lib.hid hY
 have HT := Lib.hid (fun W (hW : Below w.heap.size w W) => hT.kept hW)
 have HAw := Lib.hid (fun W (hW : Below w.heap.size w W) => awake_any W (hT.kept hW))
 have HSh := Lib.hid (fun W (hW : Below w.heap.size w W) => Short_any w.heap.size A0 A1 A2 n0 n1 n2 c0 c1 c2 y W (hY.below hW) hW.size h0 h1 h2)
 have hl0 := (sec_at hY.hs).1
 have hl1 := (sw_at hY.hw).1
 have hl2 := (pm_at hY.hp).1
 have HL0 := Lib.hid hl0
 have HL1 := Lib.hid hl1
 have HL2 := Lib.hid hl2
 have HF := Lib.hid (fun h => hW.fits (y := y) h)
 clear hY hT h0 h1 h2 hW hl0 hl1 hl2
 cases hS : shortY y with
 | false =>
  rw [hS] at HSh
  clear hS
  as_aux_lemma =>
   go_enter Tryz.func12, Tryz.ntmps12
   go_wp2_with fail
   refine (HAw.out _ bl_).mono ?_
   (rintro e w1 ⟨rfl, hb1⟩; have hs1 := hb1.size; (try simp at hs1))
   have HB1 := Lib.hid (bl_ : Below w.heap.size w w1)
   have BY := Lib.hid (bk_ : Blk w1 w.heap.size 26 #[.slice A0 n0 c0, .slice A1 n1 c1, .slice A2 n2 c2])
   have BG := Lib.hid (bk_ : Blk w1 w.heap.size 26 #[.slice A0 n0 c0, .slice A1 n1 c1, .slice A2 n2 c2])
   have cY := BY.out.cell
   have lY := BY.out.lt
   have cG := BG.out.cell
   have lG := BG.out.lt
   clear hb1
   go_wp2_with fail
   refine (HSh.out _ HB1.out).mono ?_
   (rintro e w2 ⟨rfl, hb2⟩; have hs2 := hb2.size; (try simp at hs2))
   have HB2 := Lib.hid (HB1.out.trans (hb2.mono HB1.out.size))
   have hs02 := HB2.out.size
   replace BY := Lib.hid (BY.out.kept hb2)
   replace cY := BY.out.cell
   replace lY := BY.out.lt
   (try replace BG := Lib.hid (BG.out.kept hb2))
   (try replace cG := BG.out.cell)
   (try replace lG := BG.out.lt)
   clear hb2
   go_wp2_with fail
   refine (HAw.out _ HB2.out).mono ?_
   rintro e wz ⟨rfl, hbz⟩
   go_wp2_with fail
   go_ret
   exact ⟨rfl, HB2.out.trans (hbz.mono HB2.out.size)⟩
 | true =>
  rw [hS] at HSh
  by_cases hsz : s.size ≤ 300 ∨ s.size = 4097
  · have hF := HF.out hS
    have f0 := hF.s9
    have f1 := hF.w9
    have f2 := hF.p9
    have g0 : n0 ≤ 9 := HL0.out ▸ f0
    have g1 : n1 ≤ 9 := HL1.out ▸ f1
    have g2 : n2 ≤ 9 := HL2.out ▸ f2
    have hs' : s.size ≤ 300 ∨ 4096 < s.size := by omega
    have HO := Lib.hid (fun W (hW : Below w.heap.size w W) => (own_any w.heap.size A0 A1 A2 n0 n1 n2 c0 c1 c2 y W (HY.out.below hW) hW.size (by omega) (by omega) (by omega)).mono fun _ _ h => h.sh)
    have HCk := Lib.hid (fun W (hW : Below w.heap.size w W) => rCheckYard_any w.heap.size A0 A1 A2 n0 n1 n2 c0 c1 c2 y W (HY.out.below hW) hW.size hF)
    have HPr := Lib.hid (fun W D0 D1 D2 d0 d1 d2 (hy : YdAt W W.heap.size D0 D1 D2 y.s.length y.w.length y.p.length y) (hW : Below w.heap.size w W) => Print_any W.heap.size D0 D1 D2 y.s.length y.w.length y.p.length d0 d1 d2 y W hy (Nat.le_refl _) (HT.out W hW) hF)
    have HPa := Lib.hid (fun W (hW : Below w.heap.size w W) => Parse_any s W (HT.out W hW) hs')
    have HrPr := Lib.hid (fun (he : yardE y = 0) W (hW : Below w.heap.size w W) => rPrint_any w.heap.size A0 A1 A2 n0 n1 n2 c0 c1 c2 y W (HY.out.below hW) hW.size he hF)
    have HrPa := Lib.hid (fun W => rParse_any s W hs')
    have HTd := Lib.hid (fun zz (hz : lensQ zz) W A0 A1 A2 c0 c1 c2 (hy : YdAt W W.heap.size A0 A1 A2 zz.s.length zz.w.length zz.p.length zz) => told_any W.heap.size A0 A1 A2 zz.s.length zz.w.length zz.p.length c0 c1 c2 zz W hy (Nat.le_refl _) (by have := hz.1; omega) (by have := hz.2.1; omega) (by have := hz.2.2; omega))
    have HSa := Lib.hid (fun zz (hz : lensQ zz) W A0 A1 A2 D0 D1 D2 c0 c1 c2 d0 d1 d2 (hy : YdAt W W.heap.size A0 A1 A2 zz.s.length zz.w.length zz.p.length zz) (hz' : YdAt W W.heap.size D0 D1 D2 zz.s.length zz.w.length zz.p.length zz) => Same_any W.heap.size A0 A1 A2 zz.s.length zz.w.length zz.p.length c0 c1 c2 D0 D1 D2 zz.s.length zz.w.length zz.p.length d0 d1 d2 zz W hy hz' (Nat.le_refl _) (by have := hz.1; omega) (by have := hz.2.1; omega) (by have := hz.2.2; omega))
    have HLn := Lib.hid (parse_lens s)
    clear hS hs' HF hF
    generalize parseR s = pr at *
    obtain ⟨z, n, pe⟩ := pr
    rcases hsz with hz | hz
    · have hz1 : ¬ (300 : Int) < (s.size : Int) := by omega
      clear hz
      as_aux_lemma =>
       go_enter Tryz.func12, Tryz.ntmps12
       go_wp2_with fail
       refine (HAw.out _ bl_).mono ?_
       (rintro e w1 ⟨rfl, hb1⟩; have hs1 := hb1.size; (try simp at hs1))
       have HB1 := Lib.hid (bl_ : Below w.heap.size w w1)
       have BY := Lib.hid (bk_ : Blk w1 w.heap.size 26 #[.slice A0 n0 c0, .slice A1 n1 c1, .slice A2 n2 c2])
       have BG := Lib.hid (bk_ : Blk w1 w.heap.size 26 #[.slice A0 n0 c0, .slice A1 n1 c1, .slice A2 n2 c2])
       have cY := BY.out.cell
       have lY := BY.out.lt
       have cG := BG.out.cell
       have lG := BG.out.lt
       clear hb1
       go_wp2_with fail
       refine (HSh.out _ HB1.out).mono ?_
       (rintro e w2 ⟨rfl, hb2⟩; have hs2 := hb2.size; (try simp at hs2))
       have HB2 := Lib.hid (HB1.out.trans (hb2.mono HB1.out.size))
       have hs02 := HB2.out.size
       replace BY := Lib.hid (BY.out.kept hb2)
       replace cY := BY.out.cell
       replace lY := BY.out.lt
       (try replace BG := Lib.hid (BG.out.kept hb2))
       (try replace cG := BG.out.cell)
       (try replace lG := BG.out.lt)
       clear hb2
       go_wp2_with fail
       refine (HO.out _ HB2.out).mono ?_
       rintro e w3 ⟨D0, D1, D2, d0, d1, d2, rfl, hyd, hb3⟩
       have hs3 := hb3.size
       have HY3 := Lib.hid hyd
       clear hyd
       have HB3 := Lib.hid (HB2.out.trans (hb3.mono HB2.out.size))
       have hs03 := HB3.out.size
       replace BY := Lib.hid (BY.out.kept hb3)
       replace cY := BY.out.cell
       replace lY := BY.out.lt
       (try replace BG := Lib.hid (BG.out.kept hb3))
       (try replace cG := BG.out.cell)
       (try replace lG := BG.out.lt)
       clear hb3
       go_wp2_with fail
       refine (HPr.out _ _ _ _ _ _ _ HY3.out HB3.out).mono ?_
       (rintro e w4 ⟨rfl, hb4⟩; have hs4 := hb4.size; (try simp at hs4))
       have HB4 := Lib.hid (HB3.out.trans (hb4.mono HB3.out.size))
       have hs04 := HB4.out.size
       replace BY := Lib.hid (BY.out.kept hb4)
       replace cY := BY.out.cell
       replace lY := BY.out.lt
       (try replace BG := Lib.hid (BG.out.kept hb4))
       (try replace cG := BG.out.cell)
       (try replace lG := BG.out.lt)
       clear hb4
       clear HY3
       go_wp2_with fail
       refine (HPa.out _ HB4.out).mono ?_
       rintro e w5 ⟨E0, E1, E2, e0, e1, e2, rfl, hyz, hb5⟩
       have hs5 := hb5.size
       have HZ5 := Lib.hid hyz
       clear hyz
       have HB5 := Lib.hid (HB4.out.trans (hb5.mono HB4.out.size))
       have hs05 := HB5.out.size
       replace BY := Lib.hid (BY.out.kept hb5)
       replace cY := BY.out.cell
       replace lY := BY.out.lt
       (try replace BG := Lib.hid (BG.out.kept hb5))
       (try replace cG := BG.out.cell)
       (try replace lG := BG.out.lt)
       clear hb5
       go_wp2_with fail
       have hb6 : Below w5.heap.size w5 (w5.alloc (.cells #[.slice E0 z.s.length e0, .slice E1 z.w.length e1, .slice E2 z.p.length e2] 41)) := bl_
       have HZ := Lib.hid (⟨Blk.new w5 41 #[.slice E0 z.s.length e0, .slice E1 z.w.length e1, .slice E2 z.p.length e2], yd_kept HZ5.out hb6⟩ : YdQ 41 z w5.heap.size E0 E1 E2 e0 e1 e2 _)
       have hs6 := World.size_alloc w5 (.cells #[.slice E0 z.s.length e0, .slice E1 z.w.length e1, .slice E2 z.p.length e2] 41)
       clear HZ5
       generalize (w5.alloc (.cells #[.slice E0 z.s.length e0, .slice E1 z.w.length e1, .slice E2 z.p.length e2] 41)) = w6 at *
       have HB6 := Lib.hid (HB5.out.trans (hb6.mono HB5.out.size))
       have hs06 := HB6.out.size
       replace BY := Lib.hid (BY.out.kept hb6)
       replace cY := BY.out.cell
       replace lY := BY.out.lt
       (try replace BG := Lib.hid (BG.out.kept hb6))
       (try replace cG := BG.out.cell)
       (try replace lG := BG.out.lt)
       clear hb6
       refine (HCk.out _ HB6.out).mono ?_
       (rintro e w7 ⟨rfl, hb7⟩; have hs7 := hb7.size; (try simp at hs7))
       replace HZ := Lib.hid (HZ.out.kept hb7)
       have HB7 := Lib.hid (HB6.out.trans (hb7.mono HB6.out.size))
       have hs07 := HB7.out.size
       replace BY := Lib.hid (BY.out.kept hb7)
       replace cY := BY.out.cell
       replace lY := BY.out.lt
       (try replace BG := Lib.hid (BG.out.kept hb7))
       (try replace cG := BG.out.cell)
       (try replace lG := BG.out.lt)
       clear hb7
       by_cases he : yardE y = 0
       · have hps : printS y = toB (printL y) := by unfold printS; rw [if_pos he]; rfl
         rw [he, hps]
         clear hps
         go_wp2_with fail
         refine (HrPr.out he _ HB7.out).mono ?_
         (rintro e w8 ⟨rfl, hb8⟩; have hs8 := hb8.size; (try simp at hs8))
         replace HZ := Lib.hid (HZ.out.kept hb8)
         have HB8 := Lib.hid (HB7.out.trans (hb8.mono HB7.out.size))
         have hs08 := HB8.out.size
         replace BY := Lib.hid (BY.out.kept hb8)
         replace cY := BY.out.cell
         replace lY := BY.out.lt
         (try replace BG := Lib.hid (BG.out.kept hb8))
         (try replace cG := BG.out.cell)
         (try replace lG := BG.out.lt)
         clear hb8
         go_wp2_with fail
         refine (HrPa.out _).mono ?_
         rintro e w9 ⟨G0, G1, G2, h0', h1', h2', rfl, hyr, hb9⟩
         have hs9 := hb9.size
         replace HZ := Lib.hid (HZ.out.kept hb9)
         have HQ9 := Lib.hid hyr
         clear hyr
         have HB9 := Lib.hid (HB8.out.trans (hb9.mono HB8.out.size))
         have hs09 := HB9.out.size
         replace BY := Lib.hid (BY.out.kept hb9)
         replace cY := BY.out.cell
         replace lY := BY.out.lt
         (try replace BG := Lib.hid (BG.out.kept hb9))
         (try replace cG := BG.out.cell)
         (try replace lG := BG.out.lt)
         clear hb9
         go_wp2_with fail
         have hbu : Below w9.heap.size w9 (w9.alloc (.cells #[.slice G0 z.s.length h0', .slice G1 z.w.length h1', .slice G2 z.p.length h2'] 26)) := bl_
         have HQ := Lib.hid (⟨Blk.new w9 26 #[.slice G0 z.s.length h0', .slice G1 z.w.length h1', .slice G2 z.p.length h2'], yd_kept HQ9.out hbu⟩ : YdQ 26 z w9.heap.size G0 G1 G2 h0' h1' h2' _)
         replace HZ := Lib.hid (HZ.out.kept hbu)
         have hsu := World.size_alloc w9 (.cells #[.slice G0 z.s.length h0', .slice G1 z.w.length h1', .slice G2 z.p.length h2'] 26)
         clear HQ9
         generalize (w9.alloc (.cells #[.slice G0 z.s.length h0', .slice G1 z.w.length h1', .slice G2 z.p.length h2'] 26)) = wu at *
         have HBu := Lib.hid (HB9.out.trans (hbu.mono HB9.out.size))
         have hs0u := HBu.out.size
         replace BY := Lib.hid (BY.out.kept hbu)
         replace cY := BY.out.cell
         replace lY := BY.out.lt
         (try replace BG := Lib.hid (BG.out.kept hbu))
         (try replace cG := BG.out.cell)
         (try replace lG := BG.out.lt)
         clear hbu
         have HP := Lib.hid (Below.refl wu.heap.size wu)
         have cM := HZ.out.blk.cell
         have lM := HZ.out.blk.lt
         have ca := HQ.out.blk.cell
         have la := HQ.out.blk.lt
         (refine wp_region_calm [] [0, 1, 2, 3, 4, 5, 6, 7, 8, 9, 11] 14 (by kernel_rfl) rfl (by kernel_rfl) (by kernel_rfl) (by kernel_rfl) ?_; simp only [pickB, List.filterMap_cons, List.filterMap_nil, List.getElem?_toArray, List.getElem?_cons_zero, List.getElem?_cons_succ]; (repeat (first | ((first | (with_reducible refine quietL_plain rfl (fun K hK => ?_)) | (with_reducible refine quietL_want (by with_unfolding_all rfl) (fun K hK => ?_))); (apply Exists.intro; refine ⟨fun wx hx => ?_, ?_⟩; (· (have hcx := ifs_ex hx); simp [go_sem, *, ↓IntWalk.iteOmega] <;> (first | rfl | exact ⟨rfl, rfl⟩ | fail)); (simp only [Act.put, List.setIfInBounds_toArray, List.set_cons_zero, List.set_cons_succ]; refine hK _ ?_; clear hK K))) | ((with_reducible refine quietL_skip (by with_unfolding_all rfl) ?_); simp only [Act.put, List.setIfInBounds_toArray, List.set_cons_zero, List.set_cons_succ]))); refine quietL_nil ?_)
         (refine anyB_one_want (i := 10) (by kernel_rfl) rfl (by kernel_rfl) ?_; intro wA hbA K hK; have hsA := hbA.size; (try simp at hsA); go_wp2_with fail)
         replace HP := Lib.hid (HP.out.trans (hbA.mono HP.out.size))
         refine (HTd.out _ HLn.out _ _ _ _ _ _ _ (yd_kept HZ.out.yd HP.out)).mono ?_
         rintro e wB ⟨F0, F1, F2, f0, f1, f2, rfl, hOB, hbB⟩
         have hsB := hbB.size
         have HFB := Lib.hid hOB.yd
         clear hOB
         replace HP := Lib.hid (HP.out.trans (hbB.mono HP.out.size))
         (go_wp2; refine ⟨xs_, ?_⟩)
         (refine anyB_one_want (i := 12) (by kernel_rfl) rfl (by kernel_rfl) ?_; intro wC hbC K hK; have hsC := hbC.size; (try simp at hsC); go_wp2_with fail)
         replace HP := Lib.hid (HP.out.trans (hbC.mono HP.out.size))
         refine (HSa.out _ HLn.out _ _ _ _ _ _ _ _ _ _ _ _ _ (yd_kept HFB.out hbC) (yd_kept HQ.out.yd HP.out)).mono ?_
         rintro e wD ⟨rfl, hbD⟩
         have hsD := hbD.size
         replace HP := Lib.hid (HP.out.trans (hbD.mono HP.out.size))
         clear HFB
         (go_wp2; refine ⟨xs_, ?_⟩)
         (refine anyB_quiet_at (by kernel_rfl) calm_panic xs_ 1 [13, 14, 15, 16, 17, 18, 19, 20, 21, 22, 23] _ _ (by kernel_rfl) (by decide +kernel) ?_; simp only [pickB, List.filterMap_cons, List.filterMap_nil, List.getElem?_toArray, List.getElem?_cons_zero, List.getElem?_cons_succ]; (repeat (first | ((first | (with_reducible refine quietL_plain rfl (fun K hK => ?_)) | (with_reducible refine quietL_want (by with_unfolding_all rfl) (fun K hK => ?_))); (apply Exists.intro; refine ⟨fun wx hx => ?_, ?_⟩; (· (have hcx := ifs_ex hx); simp [go_sem, *, ↓IntWalk.iteOmega] <;> (first | rfl | exact ⟨rfl, rfl⟩ | fail)); (simp only [Act.put, List.setIfInBounds_toArray, List.set_cons_zero, List.set_cons_succ]; refine hK _ ?_; clear hK K))) | ((with_reducible refine quietL_skip (by with_unfolding_all rfl) ?_); simp only [Act.put, List.setIfInBounds_toArray, List.set_cons_zero, List.set_cons_succ]))); refine quietL_nil ?_)
         (refine anyB_one (i := 24) (by kernel_rfl) rfl rfl ?_; intro wN hbN K hK; have hsN := hbN.size; (try simp at hsN); go_wp2; refine ⟨xs_, ?_⟩)
         (refine anyB_end (by kernel_rfl) ?_; intro wO hbO; have hsO := hbO.size; (try simp at hsO); simp only [Calm])
         have hFin : Below w.heap.size w wO := HBu.out.trans ((HP.out.trans ((hbN.trans (hbO.mono hbN.size)).mono HP.out.size)).mono HBu.out.size)
         clear hbA hbB hbC hbD hbN hbO
         go_wp2_with fail
         go_ret
         exact ⟨by first | rfl | (simp; done), hFin⟩
       · have hps : printS y = ⟨#[]⟩ := by unfold printS; rw [if_neg he]
         rw [hps]
         clear hps HrPr
         generalize yardE y = ee at *
         have hne : (ee == 0) = false := by simpa using he
         go_wp2_with fail
         refine (HrPa.out _).mono ?_
         rintro e w9 ⟨G0, G1, G2, h0', h1', h2', rfl, hyr, hb9⟩
         have hs9 := hb9.size
         replace HZ := Lib.hid (HZ.out.kept hb9)
         have HQ9 := Lib.hid hyr
         clear hyr
         have HB9 := Lib.hid (HB7.out.trans (hb9.mono HB7.out.size))
         have hs09 := HB9.out.size
         replace BY := Lib.hid (BY.out.kept hb9)
         replace cY := BY.out.cell
         replace lY := BY.out.lt
         (try replace BG := Lib.hid (BG.out.kept hb9))
         (try replace cG := BG.out.cell)
         (try replace lG := BG.out.lt)
         clear hb9
         go_wp2_with fail
         have hbu : Below w9.heap.size w9 (w9.alloc (.cells #[.slice G0 z.s.length h0', .slice G1 z.w.length h1', .slice G2 z.p.length h2'] 26)) := bl_
         have HQ := Lib.hid (⟨Blk.new w9 26 #[.slice G0 z.s.length h0', .slice G1 z.w.length h1', .slice G2 z.p.length h2'], yd_kept HQ9.out hbu⟩ : YdQ 26 z w9.heap.size G0 G1 G2 h0' h1' h2' _)
         replace HZ := Lib.hid (HZ.out.kept hbu)
         have hsu := World.size_alloc w9 (.cells #[.slice G0 z.s.length h0', .slice G1 z.w.length h1', .slice G2 z.p.length h2'] 26)
         clear HQ9
         generalize (w9.alloc (.cells #[.slice G0 z.s.length h0', .slice G1 z.w.length h1', .slice G2 z.p.length h2'] 26)) = wu at *
         have HBu := Lib.hid (HB9.out.trans (hbu.mono HB9.out.size))
         have hs0u := HBu.out.size
         replace BY := Lib.hid (BY.out.kept hbu)
         replace cY := BY.out.cell
         replace lY := BY.out.lt
         (try replace BG := Lib.hid (BG.out.kept hbu))
         (try replace cG := BG.out.cell)
         (try replace lG := BG.out.lt)
         clear hbu
         have HP := Lib.hid (Below.refl wu.heap.size wu)
         have cM := HZ.out.blk.cell
         have lM := HZ.out.blk.lt
         have ca := HQ.out.blk.cell
         have la := HQ.out.blk.lt
         (refine wp_region_calm [] [0, 1, 2, 3, 4, 5, 6, 7, 8, 9, 11] 14 (by kernel_rfl) rfl (by kernel_rfl) (by kernel_rfl) (by kernel_rfl) ?_; simp only [pickB, List.filterMap_cons, List.filterMap_nil, List.getElem?_toArray, List.getElem?_cons_zero, List.getElem?_cons_succ]; (repeat (first | ((first | (with_reducible refine quietL_plain rfl (fun K hK => ?_)) | (with_reducible refine quietL_want (by with_unfolding_all rfl) (fun K hK => ?_))); (apply Exists.intro; refine ⟨fun wx hx => ?_, ?_⟩; (· (have hcx := ifs_ex hx); simp [go_sem, *, ↓IntWalk.iteOmega] <;> (first | rfl | exact ⟨rfl, rfl⟩ | fail)); (simp only [Act.put, List.setIfInBounds_toArray, List.set_cons_zero, List.set_cons_succ]; refine hK _ ?_; clear hK K))) | ((with_reducible refine quietL_skip (by with_unfolding_all rfl) ?_); simp only [Act.put, List.setIfInBounds_toArray, List.set_cons_zero, List.set_cons_succ]))); refine quietL_nil ?_)
         (refine anyB_one_want (i := 10) (by kernel_rfl) rfl (by kernel_rfl) ?_; intro wA hbA K hK; have hsA := hbA.size; (try simp at hsA); go_wp2_with fail)
         replace HP := Lib.hid (HP.out.trans (hbA.mono HP.out.size))
         refine (HTd.out _ HLn.out _ _ _ _ _ _ _ (yd_kept HZ.out.yd HP.out)).mono ?_
         rintro e wB ⟨F0, F1, F2, f0, f1, f2, rfl, hOB, hbB⟩
         have hsB := hbB.size
         have HFB := Lib.hid hOB.yd
         clear hOB
         replace HP := Lib.hid (HP.out.trans (hbB.mono HP.out.size))
         (go_wp2; refine ⟨xs_, ?_⟩)
         (refine anyB_one_want (i := 12) (by kernel_rfl) rfl (by kernel_rfl) ?_; intro wC hbC K hK; have hsC := hbC.size; (try simp at hsC); go_wp2_with fail)
         replace HP := Lib.hid (HP.out.trans (hbC.mono HP.out.size))
         refine (HSa.out _ HLn.out _ _ _ _ _ _ _ _ _ _ _ _ _ (yd_kept HFB.out hbC) (yd_kept HQ.out.yd HP.out)).mono ?_
         rintro e wD ⟨rfl, hbD⟩
         have hsD := hbD.size
         replace HP := Lib.hid (HP.out.trans (hbD.mono HP.out.size))
         clear HFB
         (go_wp2; refine ⟨xs_, ?_⟩)
         (refine anyB_quiet_at (by kernel_rfl) calm_panic xs_ 1 [13, 14, 15, 16, 17, 18, 19, 20, 21, 22, 23] _ _ (by kernel_rfl) (by decide +kernel) ?_; simp only [pickB, List.filterMap_cons, List.filterMap_nil, List.getElem?_toArray, List.getElem?_cons_zero, List.getElem?_cons_succ]; (repeat (first | ((first | (with_reducible refine quietL_plain rfl (fun K hK => ?_)) | (with_reducible refine quietL_want (by with_unfolding_all rfl) (fun K hK => ?_))); (apply Exists.intro; refine ⟨fun wx hx => ?_, ?_⟩; (· (have hcx := ifs_ex hx); simp [go_sem, *, ↓IntWalk.iteOmega] <;> (first | rfl | exact ⟨rfl, rfl⟩ | fail)); (simp only [Act.put, List.setIfInBounds_toArray, List.set_cons_zero, List.set_cons_succ]; refine hK _ ?_; clear hK K))) | ((with_reducible refine quietL_skip (by with_unfolding_all rfl) ?_); simp only [Act.put, List.setIfInBounds_toArray, List.set_cons_zero, List.set_cons_succ]))); refine quietL_nil ?_)
         (refine anyB_one (i := 24) (by kernel_rfl) rfl rfl ?_; intro wN hbN K hK; have hsN := hbN.size; (try simp at hsN); go_wp2; refine ⟨xs_, ?_⟩)
         (refine anyB_end (by kernel_rfl) ?_; intro wO hbO; have hsO := hbO.size; (try simp at hsO); simp only [Calm])
         have hFin : Below w.heap.size w wO := HBu.out.trans ((HP.out.trans ((hbN.trans (hbO.mono hbN.size)).mono HP.out.size)).mono HBu.out.size)
         clear hbA hbB hbC hbD hbN hbO
         go_wp2_with fail
         go_ret
         exact ⟨by first | rfl | (simp; done), hFin⟩
    · have hz1 : (300 : Int) < (s.size : Int) := by omega
      have hz2 : (s.size : Int) = 4097 := by omega
      clear hz
      as_aux_lemma =>
       go_enter Tryz.func12, Tryz.ntmps12
       go_wp2_with fail
       refine (HAw.out _ bl_).mono ?_
       (rintro e w1 ⟨rfl, hb1⟩; have hs1 := hb1.size; (try simp at hs1))
       have HB1 := Lib.hid (bl_ : Below w.heap.size w w1)
       have BY := Lib.hid (bk_ : Blk w1 w.heap.size 26 #[.slice A0 n0 c0, .slice A1 n1 c1, .slice A2 n2 c2])
       have BG := Lib.hid (bk_ : Blk w1 w.heap.size 26 #[.slice A0 n0 c0, .slice A1 n1 c1, .slice A2 n2 c2])
       have cY := BY.out.cell
       have lY := BY.out.lt
       have cG := BG.out.cell
       have lG := BG.out.lt
       clear hb1
       go_wp2_with fail
       refine (HSh.out _ HB1.out).mono ?_
       (rintro e w2 ⟨rfl, hb2⟩; have hs2 := hb2.size; (try simp at hs2))
       have HB2 := Lib.hid (HB1.out.trans (hb2.mono HB1.out.size))
       have hs02 := HB2.out.size
       replace BY := Lib.hid (BY.out.kept hb2)
       replace cY := BY.out.cell
       replace lY := BY.out.lt
       (try replace BG := Lib.hid (BG.out.kept hb2))
       (try replace cG := BG.out.cell)
       (try replace lG := BG.out.lt)
       clear hb2
       go_wp2_with fail
       refine (HO.out _ HB2.out).mono ?_
       rintro e w3 ⟨D0, D1, D2, d0, d1, d2, rfl, hyd, hb3⟩
       have hs3 := hb3.size
       have HY3 := Lib.hid hyd
       clear hyd
       have HB3 := Lib.hid (HB2.out.trans (hb3.mono HB2.out.size))
       have hs03 := HB3.out.size
       replace BY := Lib.hid (BY.out.kept hb3)
       replace cY := BY.out.cell
       replace lY := BY.out.lt
       (try replace BG := Lib.hid (BG.out.kept hb3))
       (try replace cG := BG.out.cell)
       (try replace lG := BG.out.lt)
       clear hb3
       go_wp2_with fail
       refine (HPr.out _ _ _ _ _ _ _ HY3.out HB3.out).mono ?_
       (rintro e w4 ⟨rfl, hb4⟩; have hs4 := hb4.size; (try simp at hs4))
       have HB4 := Lib.hid (HB3.out.trans (hb4.mono HB3.out.size))
       have hs04 := HB4.out.size
       replace BY := Lib.hid (BY.out.kept hb4)
       replace cY := BY.out.cell
       replace lY := BY.out.lt
       (try replace BG := Lib.hid (BG.out.kept hb4))
       (try replace cG := BG.out.cell)
       (try replace lG := BG.out.lt)
       clear hb4
       clear HY3
       go_wp2_with fail
       refine (HPa.out _ HB4.out).mono ?_
       rintro e w5 ⟨E0, E1, E2, e0, e1, e2, rfl, hyz, hb5⟩
       have hs5 := hb5.size
       have HZ5 := Lib.hid hyz
       clear hyz
       have HB5 := Lib.hid (HB4.out.trans (hb5.mono HB4.out.size))
       have hs05 := HB5.out.size
       replace BY := Lib.hid (BY.out.kept hb5)
       replace cY := BY.out.cell
       replace lY := BY.out.lt
       (try replace BG := Lib.hid (BG.out.kept hb5))
       (try replace cG := BG.out.cell)
       (try replace lG := BG.out.lt)
       clear hb5
       go_wp2_with fail
       have hb6 : Below w5.heap.size w5 (w5.alloc (.cells #[.slice E0 z.s.length e0, .slice E1 z.w.length e1, .slice E2 z.p.length e2] 41)) := bl_
       have HZ := Lib.hid (⟨Blk.new w5 41 #[.slice E0 z.s.length e0, .slice E1 z.w.length e1, .slice E2 z.p.length e2], yd_kept HZ5.out hb6⟩ : YdQ 41 z w5.heap.size E0 E1 E2 e0 e1 e2 _)
       have hs6 := World.size_alloc w5 (.cells #[.slice E0 z.s.length e0, .slice E1 z.w.length e1, .slice E2 z.p.length e2] 41)
       clear HZ5
       generalize (w5.alloc (.cells #[.slice E0 z.s.length e0, .slice E1 z.w.length e1, .slice E2 z.p.length e2] 41)) = w6 at *
       have HB6 := Lib.hid (HB5.out.trans (hb6.mono HB5.out.size))
       have hs06 := HB6.out.size
       replace BY := Lib.hid (BY.out.kept hb6)
       replace cY := BY.out.cell
       replace lY := BY.out.lt
       (try replace BG := Lib.hid (BG.out.kept hb6))
       (try replace cG := BG.out.cell)
       (try replace lG := BG.out.lt)
       clear hb6
       refine (HCk.out _ HB6.out).mono ?_
       (rintro e w7 ⟨rfl, hb7⟩; have hs7 := hb7.size; (try simp at hs7))
       replace HZ := Lib.hid (HZ.out.kept hb7)
       have HB7 := Lib.hid (HB6.out.trans (hb7.mono HB6.out.size))
       have hs07 := HB7.out.size
       replace BY := Lib.hid (BY.out.kept hb7)
       replace cY := BY.out.cell
       replace lY := BY.out.lt
       (try replace BG := Lib.hid (BG.out.kept hb7))
       (try replace cG := BG.out.cell)
       (try replace lG := BG.out.lt)
       clear hb7
       by_cases he : yardE y = 0
       · have hps : printS y = toB (printL y) := by unfold printS; rw [if_pos he]; rfl
         rw [he, hps]
         clear hps
         go_wp2_with fail
         refine (HrPr.out he _ HB7.out).mono ?_
         (rintro e w8 ⟨rfl, hb8⟩; have hs8 := hb8.size; (try simp at hs8))
         replace HZ := Lib.hid (HZ.out.kept hb8)
         have HB8 := Lib.hid (HB7.out.trans (hb8.mono HB7.out.size))
         have hs08 := HB8.out.size
         replace BY := Lib.hid (BY.out.kept hb8)
         replace cY := BY.out.cell
         replace lY := BY.out.lt
         (try replace BG := Lib.hid (BG.out.kept hb8))
         (try replace cG := BG.out.cell)
         (try replace lG := BG.out.lt)
         clear hb8
         go_wp2_with fail
         refine (HrPa.out _).mono ?_
         rintro e w9 ⟨G0, G1, G2, h0', h1', h2', rfl, hyr, hb9⟩
         have hs9 := hb9.size
         replace HZ := Lib.hid (HZ.out.kept hb9)
         have HQ9 := Lib.hid hyr
         clear hyr
         have HB9 := Lib.hid (HB8.out.trans (hb9.mono HB8.out.size))
         have hs09 := HB9.out.size
         replace BY := Lib.hid (BY.out.kept hb9)
         replace cY := BY.out.cell
         replace lY := BY.out.lt
         (try replace BG := Lib.hid (BG.out.kept hb9))
         (try replace cG := BG.out.cell)
         (try replace lG := BG.out.lt)
         clear hb9
         go_wp2_with fail
         have hbu : Below w9.heap.size w9 (w9.alloc (.cells #[.slice G0 z.s.length h0', .slice G1 z.w.length h1', .slice G2 z.p.length h2'] 26)) := bl_
         have HQ := Lib.hid (⟨Blk.new w9 26 #[.slice G0 z.s.length h0', .slice G1 z.w.length h1', .slice G2 z.p.length h2'], yd_kept HQ9.out hbu⟩ : YdQ 26 z w9.heap.size G0 G1 G2 h0' h1' h2' _)
         replace HZ := Lib.hid (HZ.out.kept hbu)
         have hsu := World.size_alloc w9 (.cells #[.slice G0 z.s.length h0', .slice G1 z.w.length h1', .slice G2 z.p.length h2'] 26)
         clear HQ9
         generalize (w9.alloc (.cells #[.slice G0 z.s.length h0', .slice G1 z.w.length h1', .slice G2 z.p.length h2'] 26)) = wu at *
         have HBu := Lib.hid (HB9.out.trans (hbu.mono HB9.out.size))
         have hs0u := HBu.out.size
         replace BY := Lib.hid (BY.out.kept hbu)
         replace cY := BY.out.cell
         replace lY := BY.out.lt
         (try replace BG := Lib.hid (BG.out.kept hbu))
         (try replace cG := BG.out.cell)
         (try replace lG := BG.out.lt)
         clear hbu
         have HP := Lib.hid (Below.refl wu.heap.size wu)
         have cM := HZ.out.blk.cell
         have lM := HZ.out.blk.lt
         have ca := HQ.out.blk.cell
         have la := HQ.out.blk.lt
         (refine wp_region_calm [] [0, 1, 2, 3, 4, 5, 6, 7, 8, 9, 11] 14 (by kernel_rfl) rfl (by kernel_rfl) (by kernel_rfl) (by kernel_rfl) ?_; simp only [pickB, List.filterMap_cons, List.filterMap_nil, List.getElem?_toArray, List.getElem?_cons_zero, List.getElem?_cons_succ]; (repeat (first | ((first | (with_reducible refine quietL_plain rfl (fun K hK => ?_)) | (with_reducible refine quietL_want (by with_unfolding_all rfl) (fun K hK => ?_))); (apply Exists.intro; refine ⟨fun wx hx => ?_, ?_⟩; (· (have hcx := ifs_ex hx); simp [go_sem, *, ↓IntWalk.iteOmega] <;> (first | rfl | exact ⟨rfl, rfl⟩ | fail)); (simp only [Act.put, List.setIfInBounds_toArray, List.set_cons_zero, List.set_cons_succ]; refine hK _ ?_; clear hK K))) | ((with_reducible refine quietL_skip (by with_unfolding_all rfl) ?_); simp only [Act.put, List.setIfInBounds_toArray, List.set_cons_zero, List.set_cons_succ]))); refine quietL_nil ?_)
         (refine anyB_one_want (i := 10) (by kernel_rfl) rfl (by kernel_rfl) ?_; intro wA hbA K hK; have hsA := hbA.size; (try simp at hsA); go_wp2_with fail)
         replace HP := Lib.hid (HP.out.trans (hbA.mono HP.out.size))
         refine (HTd.out _ HLn.out _ _ _ _ _ _ _ (yd_kept HZ.out.yd HP.out)).mono ?_
         rintro e wB ⟨F0, F1, F2, f0, f1, f2, rfl, hOB, hbB⟩
         have hsB := hbB.size
         have HFB := Lib.hid hOB.yd
         clear hOB
         replace HP := Lib.hid (HP.out.trans (hbB.mono HP.out.size))
         (go_wp2; refine ⟨xs_, ?_⟩)
         (refine anyB_one_want (i := 12) (by kernel_rfl) rfl (by kernel_rfl) ?_; intro wC hbC K hK; have hsC := hbC.size; (try simp at hsC); go_wp2_with fail)
         replace HP := Lib.hid (HP.out.trans (hbC.mono HP.out.size))
         refine (HSa.out _ HLn.out _ _ _ _ _ _ _ _ _ _ _ _ _ (yd_kept HFB.out hbC) (yd_kept HQ.out.yd HP.out)).mono ?_
         rintro e wD ⟨rfl, hbD⟩
         have hsD := hbD.size
         replace HP := Lib.hid (HP.out.trans (hbD.mono HP.out.size))
         clear HFB
         (go_wp2; refine ⟨xs_, ?_⟩)
         (refine anyB_quiet_at (by kernel_rfl) calm_panic xs_ 1 [13, 14, 15, 16, 17, 18, 19, 20, 21, 22, 23] _ _ (by kernel_rfl) (by decide +kernel) ?_; simp only [pickB, List.filterMap_cons, List.filterMap_nil, List.getElem?_toArray, List.getElem?_cons_zero, List.getElem?_cons_succ]; (repeat (first | ((first | (with_reducible refine quietL_plain rfl (fun K hK => ?_)) | (with_reducible refine quietL_want (by with_unfolding_all rfl) (fun K hK => ?_))); (apply Exists.intro; refine ⟨fun wx hx => ?_, ?_⟩; (· (have hcx := ifs_ex hx); simp [go_sem, *, ↓IntWalk.iteOmega] <;> (first | rfl | exact ⟨rfl, rfl⟩ | fail)); (simp only [Act.put, List.setIfInBounds_toArray, List.set_cons_zero, List.set_cons_succ]; refine hK _ ?_; clear hK K))) | ((with_reducible refine quietL_skip (by with_unfolding_all rfl) ?_); simp only [Act.put, List.setIfInBounds_toArray, List.set_cons_zero, List.set_cons_succ]))); refine quietL_nil ?_)
         (refine anyB_one (i := 24) (by kernel_rfl) rfl rfl ?_; intro wN hbN K hK; have hsN := hbN.size; (try simp at hsN); go_wp2; refine ⟨xs_, ?_⟩)
         (refine anyB_end (by kernel_rfl) ?_; intro wO hbO; have hsO := hbO.size; (try simp at hsO); simp only [Calm])
         have hFin : Below w.heap.size w wO := HBu.out.trans ((HP.out.trans ((hbN.trans (hbO.mono hbN.size)).mono HP.out.size)).mono HBu.out.size)
         clear hbA hbB hbC hbD hbN hbO
         go_wp2_with fail
         go_ret
         exact ⟨by first | rfl | (simp; done), hFin⟩
       · have hps : printS y = ⟨#[]⟩ := by unfold printS; rw [if_neg he]
         rw [hps]
         clear hps HrPr
         generalize yardE y = ee at *
         have hne : (ee == 0) = false := by simpa using he
         go_wp2_with fail
         refine (HrPa.out _).mono ?_
         rintro e w9 ⟨G0, G1, G2, h0', h1', h2', rfl, hyr, hb9⟩
         have hs9 := hb9.size
         replace HZ := Lib.hid (HZ.out.kept hb9)
         have HQ9 := Lib.hid hyr
         clear hyr
         have HB9 := Lib.hid (HB7.out.trans (hb9.mono HB7.out.size))
         have hs09 := HB9.out.size
         replace BY := Lib.hid (BY.out.kept hb9)
         replace cY := BY.out.cell
         replace lY := BY.out.lt
         (try replace BG := Lib.hid (BG.out.kept hb9))
         (try replace cG := BG.out.cell)
         (try replace lG := BG.out.lt)
         clear hb9
         go_wp2_with fail
         have hbu : Below w9.heap.size w9 (w9.alloc (.cells #[.slice G0 z.s.length h0', .slice G1 z.w.length h1', .slice G2 z.p.length h2'] 26)) := bl_
         have HQ := Lib.hid (⟨Blk.new w9 26 #[.slice G0 z.s.length h0', .slice G1 z.w.length h1', .slice G2 z.p.length h2'], yd_kept HQ9.out hbu⟩ : YdQ 26 z w9.heap.size G0 G1 G2 h0' h1' h2' _)
         replace HZ := Lib.hid (HZ.out.kept hbu)
         have hsu := World.size_alloc w9 (.cells #[.slice G0 z.s.length h0', .slice G1 z.w.length h1', .slice G2 z.p.length h2'] 26)
         clear HQ9
         generalize (w9.alloc (.cells #[.slice G0 z.s.length h0', .slice G1 z.w.length h1', .slice G2 z.p.length h2'] 26)) = wu at *
         have HBu := Lib.hid (HB9.out.trans (hbu.mono HB9.out.size))
         have hs0u := HBu.out.size
         replace BY := Lib.hid (BY.out.kept hbu)
         replace cY := BY.out.cell
         replace lY := BY.out.lt
         (try replace BG := Lib.hid (BG.out.kept hbu))
         (try replace cG := BG.out.cell)
         (try replace lG := BG.out.lt)
         clear hbu
         have HP := Lib.hid (Below.refl wu.heap.size wu)
         have cM := HZ.out.blk.cell
         have lM := HZ.out.blk.lt
         have ca := HQ.out.blk.cell
         have la := HQ.out.blk.lt
         (refine wp_region_calm [] [0, 1, 2, 3, 4, 5, 6, 7, 8, 9, 11] 14 (by kernel_rfl) rfl (by kernel_rfl) (by kernel_rfl) (by kernel_rfl) ?_; simp only [pickB, List.filterMap_cons, List.filterMap_nil, List.getElem?_toArray, List.getElem?_cons_zero, List.getElem?_cons_succ]; (repeat (first | ((first | (with_reducible refine quietL_plain rfl (fun K hK => ?_)) | (with_reducible refine quietL_want (by with_unfolding_all rfl) (fun K hK => ?_))); (apply Exists.intro; refine ⟨fun wx hx => ?_, ?_⟩; (· (have hcx := ifs_ex hx); simp [go_sem, *, ↓IntWalk.iteOmega] <;> (first | rfl | exact ⟨rfl, rfl⟩ | fail)); (simp only [Act.put, List.setIfInBounds_toArray, List.set_cons_zero, List.set_cons_succ]; refine hK _ ?_; clear hK K))) | ((with_reducible refine quietL_skip (by with_unfolding_all rfl) ?_); simp only [Act.put, List.setIfInBounds_toArray, List.set_cons_zero, List.set_cons_succ]))); refine quietL_nil ?_)
         (refine anyB_one_want (i := 10) (by kernel_rfl) rfl (by kernel_rfl) ?_; intro wA hbA K hK; have hsA := hbA.size; (try simp at hsA); go_wp2_with fail)
         replace HP := Lib.hid (HP.out.trans (hbA.mono HP.out.size))
         refine (HTd.out _ HLn.out _ _ _ _ _ _ _ (yd_kept HZ.out.yd HP.out)).mono ?_
         rintro e wB ⟨F0, F1, F2, f0, f1, f2, rfl, hOB, hbB⟩
         have hsB := hbB.size
         have HFB := Lib.hid hOB.yd
         clear hOB
         replace HP := Lib.hid (HP.out.trans (hbB.mono HP.out.size))
         (go_wp2; refine ⟨xs_, ?_⟩)
         (refine anyB_one_want (i := 12) (by kernel_rfl) rfl (by kernel_rfl) ?_; intro wC hbC K hK; have hsC := hbC.size; (try simp at hsC); go_wp2_with fail)
         replace HP := Lib.hid (HP.out.trans (hbC.mono HP.out.size))
         refine (HSa.out _ HLn.out _ _ _ _ _ _ _ _ _ _ _ _ _ (yd_kept HFB.out hbC) (yd_kept HQ.out.yd HP.out)).mono ?_
         rintro e wD ⟨rfl, hbD⟩
         have hsD := hbD.size
         replace HP := Lib.hid (HP.out.trans (hbD.mono HP.out.size))
         clear HFB
         (go_wp2; refine ⟨xs_, ?_⟩)
         (refine anyB_quiet_at (by kernel_rfl) calm_panic xs_ 1 [13, 14, 15, 16, 17, 18, 19, 20, 21, 22, 23] _ _ (by kernel_rfl) (by decide +kernel) ?_; simp only [pickB, List.filterMap_cons, List.filterMap_nil, List.getElem?_toArray, List.getElem?_cons_zero, List.getElem?_cons_succ]; (repeat (first | ((first | (with_reducible refine quietL_plain rfl (fun K hK => ?_)) | (with_reducible refine quietL_want (by with_unfolding_all rfl) (fun K hK => ?_))); (apply Exists.intro; refine ⟨fun wx hx => ?_, ?_⟩; (· (have hcx := ifs_ex hx); simp [go_sem, *, ↓IntWalk.iteOmega] <;> (first | rfl | exact ⟨rfl, rfl⟩ | fail)); (simp only [Act.put, List.setIfInBounds_toArray, List.set_cons_zero, List.set_cons_succ]; refine hK _ ?_; clear hK K))) | ((with_reducible refine quietL_skip (by with_unfolding_all rfl) ?_); simp only [Act.put, List.setIfInBounds_toArray, List.set_cons_zero, List.set_cons_succ]))); refine quietL_nil ?_)
         (refine anyB_one (i := 24) (by kernel_rfl) rfl rfl ?_; intro wN hbN K hK; have hsN := hbN.size; (try simp at hsN); go_wp2; refine ⟨xs_, ?_⟩)
         (refine anyB_end (by kernel_rfl) ?_; intro wO hbO; have hsO := hbO.size; (try simp at hsO); simp only [Calm])
         have hFin : Below w.heap.size w wO := HBu.out.trans ((HP.out.trans ((hbN.trans (hbO.mono hbN.size)).mono HP.out.size)).mono HBu.out.size)
         clear hbA hbB hbC hbD hbN hbO
         go_wp2_with fail
         go_ret
         exact ⟨by first | rfl | (simp; done), hFin⟩
  · have hz1 : (300 : Int) < (s.size : Int) := by omega
    have hz2 : ¬ ((s.size : Int) = 4097) := by omega
    clear hS hsz
    as_aux_lemma =>
     go_enter Tryz.func12, Tryz.ntmps12
     go_wp2_with fail
     refine (HAw.out _ bl_).mono ?_
     (rintro e w1 ⟨rfl, hb1⟩; have hs1 := hb1.size; (try simp at hs1))
     have HB1 := Lib.hid (bl_ : Below w.heap.size w w1)
     have BY := Lib.hid (bk_ : Blk w1 w.heap.size 26 #[.slice A0 n0 c0, .slice A1 n1 c1, .slice A2 n2 c2])
     have BG := Lib.hid (bk_ : Blk w1 w.heap.size 26 #[.slice A0 n0 c0, .slice A1 n1 c1, .slice A2 n2 c2])
     have cY := BY.out.cell
     have lY := BY.out.lt
     have cG := BG.out.cell
     have lG := BG.out.lt
     clear hb1
     go_wp2_with fail
     refine (HSh.out _ HB1.out).mono ?_
     (rintro e w2 ⟨rfl, hb2⟩; have hs2 := hb2.size; (try simp at hs2))
     have HB2 := Lib.hid (HB1.out.trans (hb2.mono HB1.out.size))
     have hs02 := HB2.out.size
     replace BY := Lib.hid (BY.out.kept hb2)
     replace cY := BY.out.cell
     replace lY := BY.out.lt
     (try replace BG := Lib.hid (BG.out.kept hb2))
     (try replace cG := BG.out.cell)
     (try replace lG := BG.out.lt)
     clear hb2
     go_wp2_with fail
     refine (HAw.out _ HB2.out).mono ?_
     rintro e wz ⟨rfl, hbz⟩
     go_wp2_with fail
     go_ret
     exact ⟨rfl, HB2.out.trans (hbz.mono HB2.out.size)⟩
end Go.Proofs.YtphlojgmfkgeiaaGreatDoor
