/- The law TopThimbleRotating, its first half: the numbers, the product. -/
import Derived.Test.YtjakigncloleaaaDoorPh14
import Derived.Test.YtjakigncloleaaaDoorB2
import Derived.Test.YtjakigncloleaaaDoorR2
import Derived.Deep.DeepCutAuto
import Derived.Deep.RegionWith
import Derived.Deep.DrawnRows
namespace Go.Proofs.YtjakigncloleaaaDoor
open Go.RowKit Go.Sort
attribute [local go_sem] cell_if frozen_if grow_cell
attribute [local go_sem ↓] Go.wp_at_zero Go.wp_at_succ
set_option maxRecDepth 100000 in
set_option maxHeartbeats 2000000 in
theorem law_any (u0 u1 i0 i1 s : Int) (w : World) (hu0 : -128 ≤ u0 ∧ u0 ≤ 127) (hu1 : -128 ≤ u1 ∧ u1 ≤ 127) (hi0 : -128 ≤ i0 ∧ i0 ≤ 127) (hi1 : -128 ≤ i1 ∧ i1 ≤ 127) (hs : -128 ≤ s ∧ s ≤ 127) (hw : Roots w) :
    Calls Tryd.prog 3 #[.agg #[.int .i8 u0, .int .i8 u1], .agg #[.int .i8 i0, .int .i8 i1], .int .i8 s] w fun e w' => e = .returned (.bool true) ∧ Below w.heap.size w w' := by
  obtain ⟨s1, s2⟩ := hs
  go_enter Tryd.func3, Tryd.ntmps3
  go_upto_region 1 with fail
  go_cut [7, 8, 9] (fun s7 s8 s9 wx => ∃ g h : Nat, s7 = .pointer (some ⟨g, 0, none⟩) ∧ s8 = .pointer (some ⟨h, 0, none⟩) ∧ s9 = .int .i64 s ∧ Blk wx g 25 #[.int .i64 (u0.tmod 101), .int .i64 (u1.tmod 101)] ∧ Blk wx h 25 #[.int .i64 (i0.tmod 101), .int .i64 (i1.tmod 101)] ∧ Below w.heap.size w wx)
  case first =>
    (refine wp_region_calm [] [0, 1, 2, 3, 4, 5] 5 (by kernel_rfl) rfl (by kernel_rfl) (by kernel_rfl) (by kernel_rfl) ?_; simp only [pickB, List.filterMap_cons, List.filterMap_nil, List.getElem?_toArray, List.getElem?_cons_zero, List.getElem?_cons_succ]; (repeat (refine quietL_plain rfl (fun K hK => ?_); (apply Exists.intro; refine ⟨fun wx hx => ?_, ?_⟩; (· (have hcx := ifs_ex hx); simp [go_sem, *] <;> (first | rfl | exact ⟨rfl, rfl⟩ | exact calls_B (number_any _ _ _ (by assumption) (by assumption)))); (simp only [Act.put, List.setIfInBounds_toArray, List.set_cons_zero, List.set_cons_succ]; refine hK _ ?_; clear hK K)))); refine quietL_nil ?_)
    refine anyB_two (i := 6) (j := 7) (by kernel_rfl) rfl rfl rfl rfl ?_ ?_
    · intro w1 hb1 K hK
      obtain ⟨hc1, hf1⟩ := ifs_of hb1; have hs1 := hb1.size; (try simp at hs1)
      go_wp2
      refine ⟨(by repeat (first | (with_reducible exact Ex.refl _ _) | (with_reducible assumption) | (with_reducible refine Ex.alloc ?_ _) | ((with_reducible refine Ex.set_in ?_ ?_ _); (· first | (left; simp; done) | (right; simp; done) | (right; simp; omega) | (right; omega))) | ((with_reducible apply Ex.step); (· with_reducible assumption)))), ?_⟩
      (refine anyB_one (i := 7) (by kernel_rfl) rfl rfl ?_; intro w2 hb2 K hK; obtain ⟨hc2, hf2⟩ := ifs_of hb2; have hs2 := hb2.size; (try simp at hs2); go_wp2; refine ⟨(by repeat (first | (with_reducible exact Ex.refl _ _) | (with_reducible assumption) | (with_reducible refine Ex.alloc ?_ _) | ((with_reducible refine Ex.set_in ?_ ?_ _); (· first | (left; simp; done) | (right; simp; done) | (right; simp; omega) | (right; omega))) | ((with_reducible apply Ex.step); (· with_reducible assumption)))), ?_⟩)
      (refine anyB_one (i := 8) (by kernel_rfl) rfl rfl ?_; intro w3 hb3 K hK; obtain ⟨hc3, hf3⟩ := ifs_of hb3; have hs3 := hb3.size; (try simp at hs3); go_wp2; refine ⟨(by repeat (first | (with_reducible exact Ex.refl _ _) | (with_reducible assumption) | (with_reducible refine Ex.alloc ?_ _) | ((with_reducible refine Ex.set_in ?_ ?_ _); (· first | (left; simp; done) | (right; simp; done) | (right; simp; omega) | (right; omega))) | ((with_reducible apply Ex.step); (· with_reducible assumption)))), ?_⟩)
      (refine anyB_one (i := 9) (by kernel_rfl) rfl rfl ?_; intro w4 hb4 K hK; obtain ⟨hc4, hf4⟩ := ifs_of hb4; have hs4 := hb4.size; (try simp at hs4); go_wp2; refine ⟨(by repeat (first | (with_reducible exact Ex.refl _ _) | (with_reducible assumption) | (with_reducible refine Ex.alloc ?_ _) | ((with_reducible refine Ex.set_in ?_ ?_ _); (· first | (left; simp; done) | (right; simp; done) | (right; simp; omega) | (right; omega))) | ((with_reducible apply Ex.step); (· with_reducible assumption)))), ?_⟩)
      (refine anyB_one (i := 10) (by kernel_rfl) rfl rfl ?_; intro w5 hb5 K hK; obtain ⟨hc5, hf5⟩ := ifs_of hb5; have hs5 := hb5.size; (try simp at hs5); go_wp2; refine ⟨(by repeat (first | (with_reducible exact Ex.refl _ _) | (with_reducible assumption) | (with_reducible refine Ex.alloc ?_ _) | ((with_reducible refine Ex.set_in ?_ ?_ _); (· first | (left; simp; done) | (right; simp; done) | (right; simp; omega) | (right; omega))) | ((with_reducible apply Ex.step); (· with_reducible assumption)))), ?_⟩)
      (refine anyB_end (by kernel_rfl) ?_; intro w6 hb6; obtain ⟨hc6, hf6⟩ := ifs_of hb6; have hs6 := hb6.size; (try simp at hs6); simp only [Calm])
      go_wp2_with fail
      go_meet
      exact ⟨_, _, rfl, rfl, rfl, (by repeat (first | (with_reducible assumption) | ((with_reducible apply Blk.new_at); (first | (simp; done) | (simp; omega))) | (with_reducible apply Blk.drew) | (with_reducible refine Blk.alloc ?_ _) | (with_reducible apply blk_two) | ((with_reducible refine blk_far ?_ ?_ _); (· first | (simp; done) | (simp; omega) | omega)) | ((with_reducible apply blk_kept); (· with_reducible assumption)))), (by repeat (first | (with_reducible assumption) | ((with_reducible apply Blk.new_at); (first | (simp; done) | (simp; omega))) | (with_reducible apply Blk.drew) | (with_reducible refine Blk.alloc ?_ _) | (with_reducible apply blk_two) | ((with_reducible refine blk_far ?_ ?_ _); (· first | (simp; done) | (simp; omega) | omega)) | ((with_reducible apply blk_kept); (· with_reducible assumption)))), (by repeat (first | (with_reducible exact Below.refl _ _) | (with_reducible assumption) | ((with_reducible refine Below.alloc ?_ ?_ _); rotate_left; (· first | (simp; done) | (simp; omega) | omega)) | ((with_reducible refine Below.setCell ?_ ?_ _); rotate_left; (· first | (simp; done) | (simp; omega) | omega)) | (with_reducible apply Below.drew) | ((with_reducible apply below_step); (· with_reducible assumption); rotate_left; (· first | (simp; done) | (simp; omega) | omega))))⟩
    · intro w1 hb1 K hK
      obtain ⟨hc1, hf1⟩ := ifs_of hb1; have hs1 := hb1.size; (try simp at hs1)
      go_wp2
      refine ⟨(by repeat (first | (with_reducible exact Ex.refl _ _) | (with_reducible assumption) | (with_reducible refine Ex.alloc ?_ _) | ((with_reducible refine Ex.set_in ?_ ?_ _); (· first | (left; simp; done) | (right; simp; done) | (right; simp; omega) | (right; omega))) | ((with_reducible apply Ex.step); (· with_reducible assumption)))), ?_⟩
      (refine anyB_one (i := 6) (by kernel_rfl) rfl rfl ?_; intro w2 hb2 K hK; obtain ⟨hc2, hf2⟩ := ifs_of hb2; have hs2 := hb2.size; (try simp at hs2); go_wp2; refine ⟨(by repeat (first | (with_reducible exact Ex.refl _ _) | (with_reducible assumption) | (with_reducible refine Ex.alloc ?_ _) | ((with_reducible refine Ex.set_in ?_ ?_ _); (· first | (left; simp; done) | (right; simp; done) | (right; simp; omega) | (right; omega))) | ((with_reducible apply Ex.step); (· with_reducible assumption)))), ?_⟩)
      (refine anyB_one (i := 8) (by kernel_rfl) rfl rfl ?_; intro w3 hb3 K hK; obtain ⟨hc3, hf3⟩ := ifs_of hb3; have hs3 := hb3.size; (try simp at hs3); go_wp2; refine ⟨(by repeat (first | (with_reducible exact Ex.refl _ _) | (with_reducible assumption) | (with_reducible refine Ex.alloc ?_ _) | ((with_reducible refine Ex.set_in ?_ ?_ _); (· first | (left; simp; done) | (right; simp; done) | (right; simp; omega) | (right; omega))) | ((with_reducible apply Ex.step); (· with_reducible assumption)))), ?_⟩)
      (refine anyB_one (i := 9) (by kernel_rfl) rfl rfl ?_; intro w4 hb4 K hK; obtain ⟨hc4, hf4⟩ := ifs_of hb4; have hs4 := hb4.size; (try simp at hs4); go_wp2; refine ⟨(by repeat (first | (with_reducible exact Ex.refl _ _) | (with_reducible assumption) | (with_reducible refine Ex.alloc ?_ _) | ((with_reducible refine Ex.set_in ?_ ?_ _); (· first | (left; simp; done) | (right; simp; done) | (right; simp; omega) | (right; omega))) | ((with_reducible apply Ex.step); (· with_reducible assumption)))), ?_⟩)
      (refine anyB_one (i := 10) (by kernel_rfl) rfl rfl ?_; intro w5 hb5 K hK; obtain ⟨hc5, hf5⟩ := ifs_of hb5; have hs5 := hb5.size; (try simp at hs5); go_wp2; refine ⟨(by repeat (first | (with_reducible exact Ex.refl _ _) | (with_reducible assumption) | (with_reducible refine Ex.alloc ?_ _) | ((with_reducible refine Ex.set_in ?_ ?_ _); (· first | (left; simp; done) | (right; simp; done) | (right; simp; omega) | (right; omega))) | ((with_reducible apply Ex.step); (· with_reducible assumption)))), ?_⟩)
      (refine anyB_end (by kernel_rfl) ?_; intro w6 hb6; obtain ⟨hc6, hf6⟩ := ifs_of hb6; have hs6 := hb6.size; (try simp at hs6); simp only [Calm])
      go_wp2_with fail
      go_meet
      exact ⟨_, _, rfl, rfl, rfl, (by repeat (first | (with_reducible assumption) | ((with_reducible apply Blk.new_at); (first | (simp; done) | (simp; omega))) | (with_reducible apply Blk.drew) | (with_reducible refine Blk.alloc ?_ _) | (with_reducible apply blk_two) | ((with_reducible refine blk_far ?_ ?_ _); (· first | (simp; done) | (simp; omega) | omega)) | ((with_reducible apply blk_kept); (· with_reducible assumption)))), (by repeat (first | (with_reducible assumption) | ((with_reducible apply Blk.new_at); (first | (simp; done) | (simp; omega))) | (with_reducible apply Blk.drew) | (with_reducible refine Blk.alloc ?_ _) | (with_reducible apply blk_two) | ((with_reducible refine blk_far ?_ ?_ _); (· first | (simp; done) | (simp; omega) | omega)) | ((with_reducible apply blk_kept); (· with_reducible assumption)))), (by repeat (first | (with_reducible exact Below.refl _ _) | (with_reducible assumption) | ((with_reducible refine Below.alloc ?_ ?_ _); rotate_left; (· first | (simp; done) | (simp; omega) | omega)) | ((with_reducible refine Below.setCell ?_ ?_ _); rotate_left; (· first | (simp; done) | (simp; omega) | omega)) | (with_reducible apply Below.drew) | ((with_reducible apply below_step); (· with_reducible assumption); rotate_left; (· first | (simp; done) | (simp; omega) | omega))))⟩
  case rest =>
    obtain ⟨g, h, rfl, rfl, rfl, hg, hh, hb⟩ := hcut
    have hgl := hg.lt
    have hhl := hh.lt
    have hsb := hb.size
    obtain ⟨g0, g1, -, -⟩ := hg.two
    obtain ⟨h0, h1, -, -⟩ := hh.two
    have HG := Lib.hid hg
    have HH := Lib.hid hh
    clear hg hh
    go_wp2_with fail
    (refine wp_region_calm [] [0, 1, 2, 3] 2 (by kernel_rfl) rfl (by kernel_rfl) (by kernel_rfl) (by kernel_rfl) ?_; simp only [pickB, List.filterMap_cons, List.filterMap_nil, List.getElem?_toArray, List.getElem?_cons_zero, List.getElem?_cons_succ]; (repeat (refine quietL_plain rfl (fun K hK => ?_); (apply Exists.intro; refine ⟨fun wx hx => ?_, ?_⟩; (· (have hcx := ifs_ex hx); simp [go_sem, *] <;> (first | rfl | exact ⟨rfl, rfl⟩ | first | exact calls_B (Bar_any _ _ _) | exact calls_B (Mul_any _ _ _ _ _))); (simp only [Act.put, List.setIfInBounds_toArray, List.set_cons_zero, List.set_cons_succ]; refine hK _ ?_; clear hK K)))); refine quietL_nil ?_)
    (refine anyB_one (i := 4) (by kernel_rfl) rfl rfl ?_; intro w1 hb1 K hK; obtain ⟨hc1, hf1⟩ := ifs_of hb1; have hs1 := hb1.size; (try simp at hs1); go_wp2; refine ⟨(by repeat (first | (with_reducible exact Ex.refl _ _) | (with_reducible assumption) | (with_reducible refine Ex.alloc ?_ _) | ((with_reducible refine Ex.set_in ?_ ?_ _); (· first | (left; simp; done) | (right; simp; done) | (right; simp; omega) | (right; omega))) | ((with_reducible apply Ex.step); (· with_reducible assumption)))), ?_⟩)
    (refine anyB_one (i := 5) (by kernel_rfl) rfl rfl ?_; intro w2 hb2 K hK; obtain ⟨hc2, hf2⟩ := ifs_of hb2; have hs2 := hb2.size; (try simp at hs2); go_wp2; refine ⟨(by repeat (first | (with_reducible exact Ex.refl _ _) | (with_reducible assumption) | (with_reducible refine Ex.alloc ?_ _) | ((with_reducible refine Ex.set_in ?_ ?_ _); (· first | (left; simp; done) | (right; simp; done) | (right; simp; omega) | (right; omega))) | ((with_reducible apply Ex.step); (· with_reducible assumption)))), ?_⟩)
    (refine anyB_end (by kernel_rfl) ?_; intro w3 hb3; obtain ⟨hc3, hf3⟩ := ifs_of hb3; have hs3 := hb3.size; (try simp at hs3); simp only [Calm])
    go_wp2_with fail
    have ha := tmod101 u0
    have hb' := tmod101 u1
    have hc := tmod101 i0
    have hd' := tmod101 i1
    have KG : Blk w3 g 25 #[.int .i64 (u0.tmod 101), .int .i64 (u1.tmod 101)] := by have x := HG.out; exact (by repeat (first | (with_reducible assumption) | ((with_reducible apply Blk.new_at); (first | (simp; done) | (simp; omega))) | (with_reducible apply Blk.drew) | (with_reducible refine Blk.alloc ?_ _) | (with_reducible apply blk_two) | ((with_reducible refine blk_far ?_ ?_ _); (· first | (simp; done) | (simp; omega) | omega)) | ((with_reducible apply blk_kept); (· with_reducible assumption))))
    have KH : Blk w3 h 25 #[.int .i64 (i0.tmod 101), .int .i64 (i1.tmod 101)] := by have x := HH.out; exact (by repeat (first | (with_reducible assumption) | ((with_reducible apply Blk.new_at); (first | (simp; done) | (simp; omega))) | (with_reducible apply Blk.drew) | (with_reducible refine Blk.alloc ?_ _) | (with_reducible apply blk_two) | ((with_reducible refine blk_far ?_ ?_ _); (· first | (simp; done) | (simp; omega) | omega)) | ((with_reducible apply blk_kept); (· with_reducible assumption))))
    have KQ : Blk w3 w1.heap.size 25 #[.int .i64 (mA (u0.tmod 101) (u1.tmod 101) (wrap64 (i0.tmod 101 - i1.tmod 101)) (wrap64 (-i1.tmod 101))), .int .i64 (mB (u0.tmod 101) (u1.tmod 101) (wrap64 (i0.tmod 101 - i1.tmod 101)) (wrap64 (-i1.tmod 101)))] := (by repeat (first | (with_reducible assumption) | ((with_reducible apply Blk.new_at); (first | (simp; done) | (simp; omega))) | (with_reducible apply Blk.drew) | (with_reducible refine Blk.alloc ?_ _) | (with_reducible apply blk_two) | ((with_reducible refine blk_far ?_ ?_ _); (· first | (simp; done) | (simp; omega) | omega)) | ((with_reducible apply blk_kept); (· with_reducible assumption))))
    have KS : Blk w3 wc.heap.size 27 #[.int .i64 0, .int .i64 0, .int .i64 0, .int .i64 0, .int .i64 0, .int .i64 0, .int .i64 0, .int .i64 0, .int .i64 0, .int .i64 0, .int .i64 0, .int .i64 0] := (by repeat (first | (with_reducible assumption) | ((with_reducible apply Blk.new_at); (first | (simp; done) | (simp; omega))) | (with_reducible apply Blk.drew) | (with_reducible refine Blk.alloc ?_ _) | (with_reducible apply blk_two) | ((with_reducible refine blk_far ?_ ?_ _); (· first | (simp; done) | (simp; omega) | omega)) | ((with_reducible apply blk_kept); (· with_reducible assumption))))
    have KB : Blk w3 (wc.heap.size + 1) 27 #[.int .i64 0, .int .i64 0, .int .i64 0, .int .i64 0, .int .i64 0, .int .i64 0, .int .i64 0, .int .i64 0, .int .i64 0, .int .i64 0, .int .i64 0, .int .i64 0] := (by repeat (first | (with_reducible assumption) | ((with_reducible apply Blk.new_at); (first | (simp; done) | (simp; omega))) | (with_reducible apply Blk.drew) | (with_reducible refine Blk.alloc ?_ _) | (with_reducible apply blk_two) | ((with_reducible refine blk_far ?_ ?_ _); (· first | (simp; done) | (simp; omega) | omega)) | ((with_reducible apply blk_kept); (· with_reducible assumption))))
    have KW : Below w.heap.size w w3 := (by repeat (first | (with_reducible exact Below.refl _ _) | (with_reducible assumption) | ((with_reducible refine Below.alloc ?_ ?_ _); rotate_left; (· first | (simp; done) | (simp; omega) | omega)) | ((with_reducible refine Below.setCell ?_ ?_ _); rotate_left; (· first | (simp; done) | (simp; omega) | omega)) | (with_reducible apply Below.drew) | ((with_reducible apply below_step); (· with_reducible assumption); rotate_left; (· first | (simp; done) | (simp; omega) | omega))))
    have hz1 : wc.heap.size + 1 < w1.heap.size := by omega
    have hz0 : g < wc.heap.size := hgl
    have hz2 : h < wc.heap.size := hhl
    clear hb1 hb2 hb3 hc1 hc2 hc3 hf1 hf2 hf3 g0 g1 h0 h1 HG HH hu0 hu1 hi0 hi1
    generalize u0.tmod 101 = a0 at *
    generalize u1.tmod 101 = a1 at *
    generalize i0.tmod 101 = c0 at *
    generalize i1.tmod 101 = c1 at *
    have ba : Bd 100 (a0, a1) := ⟨ha.1, ha.2, hb'.1, hb'.2⟩
    have bc : Bd 100 (c0, c1) := ⟨hc.1, hc.2, hd'.1, hd'.2⟩
    generalize hq : ((mA a0 a1 (wrap64 (c0 - c1)) (wrap64 (-c1)), mB a0 a1 (wrap64 (c0 - c1)) (wrap64 (-c1))) : Int × Int) = q
    have hq1 : q.1 = mA a0 a1 (wrap64 (c0 - c1)) (wrap64 (-c1)) := by rw [← hq]
    have hq2 : q.2 = mB a0 a1 (wrap64 (c0 - c1)) (wrap64 (-c1)) := by rw [← hq]
    have KQ : Blk w3 w1.heap.size 25 #[.int .i64 q.1, .int .i64 q.2] := by rw [hq1, hq2]; exact KQ
    have HQ1 := Lib.hid hq1
    have HQ2 := Lib.hid hq2
    clear hq1 hq2 hq ha hb' hc hd'
    have BA := Lib.hid ba
    have BC := Lib.hid bc
    clear ba bc
    have hw0 : Roots w3 := hw.below KW
    go_loopw [46] (fun i wr => ∃ k : Nat, k ≤ 6 ∧ i = .int .i64 k ∧ Blk wr g 25 #[.int .i64 a0, .int .i64 a1] ∧ Blk wr h 25 #[.int .i64 c0, .int .i64 c1] ∧ Blk wr w1.heap.size 25 #[.int .i64 q.1, .int .i64 q.2] ∧ Blk wr wc.heap.size 27 #[.int .i64 (seqV (fun j => ph (a0, a1) s j (tt 0)) k 0).1, .int .i64 (seqV (fun j => ph (a0, a1) s j (tt 0)) k 0).2, .int .i64 (seqV (fun j => ph (a0, a1) s j (tt 0)) k 1).1, .int .i64 (seqV (fun j => ph (a0, a1) s j (tt 0)) k 1).2, .int .i64 (seqV (fun j => ph (a0, a1) s j (tt 0)) k 2).1, .int .i64 (seqV (fun j => ph (a0, a1) s j (tt 0)) k 2).2, .int .i64 (seqV (fun j => ph (a0, a1) s j (tt 0)) k 3).1, .int .i64 (seqV (fun j => ph (a0, a1) s j (tt 0)) k 3).2, .int .i64 (seqV (fun j => ph (a0, a1) s j (tt 0)) k 4).1, .int .i64 (seqV (fun j => ph (a0, a1) s j (tt 0)) k 4).2, .int .i64 (seqV (fun j => ph (a0, a1) s j (tt 0)) k 5).1, .int .i64 (seqV (fun j => ph (a0, a1) s j (tt 0)) k 5).2] ∧ Blk wr (wc.heap.size + 1) 27 #[.int .i64 (seqV (fun j => ph (a0, a1) s j (tt 1)) k 0).1, .int .i64 (seqV (fun j => ph (a0, a1) s j (tt 1)) k 0).2, .int .i64 (seqV (fun j => ph (a0, a1) s j (tt 1)) k 1).1, .int .i64 (seqV (fun j => ph (a0, a1) s j (tt 1)) k 1).2, .int .i64 (seqV (fun j => ph (a0, a1) s j (tt 1)) k 2).1, .int .i64 (seqV (fun j => ph (a0, a1) s j (tt 1)) k 2).2, .int .i64 (seqV (fun j => ph (a0, a1) s j (tt 1)) k 3).1, .int .i64 (seqV (fun j => ph (a0, a1) s j (tt 1)) k 3).2, .int .i64 (seqV (fun j => ph (a0, a1) s j (tt 1)) k 4).1, .int .i64 (seqV (fun j => ph (a0, a1) s j (tt 1)) k 4).2, .int .i64 (seqV (fun j => ph (a0, a1) s j (tt 1)) k 5).1, .int .i64 (seqV (fun j => ph (a0, a1) s j (tt 1)) k 5).2] ∧ Below w.heap.size w wr) (fun i _ => 6 - (intOf i).toNat)
    case atStart => exact ⟨0, by omega, rfl, KG, KH, KQ, KS, KB, KW⟩
    case round =>
      obtain ⟨k, hk, rfl, LG, LH, LQ, LS, LB, LW⟩ := hrel
      obtain ⟨wo, rfl⟩ : ∃ wo : World, wo = wr := ⟨_, rfl⟩
      clear KG KH KQ KS KB KW hw0
      have zo := LB.lt
      have zq := LQ.lt
      have zw := LW.size
      by_cases hlt : k < 6
      · have hd : decide ((k : Int) < 6) = true := by simp; omega
        obtain ⟨hks1, hks2⟩ := ks_bd s1 s2 hlt
        go_wp2_with fail
        go_loopw [50] (fun i wr => ∃ m : Nat, m ≤ 3 ∧ i = .int .i64 m ∧ Blk wr g 25 #[.int .i64 a0, .int .i64 a1] ∧ Blk wr h 25 #[.int .i64 c0, .int .i64 c1] ∧ Blk wr w1.heap.size 25 #[.int .i64 q.1, .int .i64 q.2] ∧ Blk wr wc.heap.size 27 #[.int .i64 (seqV (fun j => ph (a0, a1) s j (tt 0)) k 0).1, .int .i64 (seqV (fun j => ph (a0, a1) s j (tt 0)) k 0).2, .int .i64 (seqV (fun j => ph (a0, a1) s j (tt 0)) k 1).1, .int .i64 (seqV (fun j => ph (a0, a1) s j (tt 0)) k 1).2, .int .i64 (seqV (fun j => ph (a0, a1) s j (tt 0)) k 2).1, .int .i64 (seqV (fun j => ph (a0, a1) s j (tt 0)) k 2).2, .int .i64 (seqV (fun j => ph (a0, a1) s j (tt 0)) k 3).1, .int .i64 (seqV (fun j => ph (a0, a1) s j (tt 0)) k 3).2, .int .i64 (seqV (fun j => ph (a0, a1) s j (tt 0)) k 4).1, .int .i64 (seqV (fun j => ph (a0, a1) s j (tt 0)) k 4).2, .int .i64 (seqV (fun j => ph (a0, a1) s j (tt 0)) k 5).1, .int .i64 (seqV (fun j => ph (a0, a1) s j (tt 0)) k 5).2] ∧ Blk wr (wc.heap.size + 1) 27 #[.int .i64 (seqV (fun j => ph (a0, a1) s j (tt 1)) k 0).1, .int .i64 (seqV (fun j => ph (a0, a1) s j (tt 1)) k 0).2, .int .i64 (seqV (fun j => ph (a0, a1) s j (tt 1)) k 1).1, .int .i64 (seqV (fun j => ph (a0, a1) s j (tt 1)) k 1).2, .int .i64 (seqV (fun j => ph (a0, a1) s j (tt 1)) k 2).1, .int .i64 (seqV (fun j => ph (a0, a1) s j (tt 1)) k 2).2, .int .i64 (seqV (fun j => ph (a0, a1) s j (tt 1)) k 3).1, .int .i64 (seqV (fun j => ph (a0, a1) s j (tt 1)) k 3).2, .int .i64 (seqV (fun j => ph (a0, a1) s j (tt 1)) k 4).1, .int .i64 (seqV (fun j => ph (a0, a1) s j (tt 1)) k 4).2, .int .i64 (seqV (fun j => ph (a0, a1) s j (tt 1)) k 5).1, .int .i64 (seqV (fun j => ph (a0, a1) s j (tt 1)) k 5).2] ∧ Below w.heap.size w wr ∧ Blk wr wo.heap.size 31 #[.int .i64 (seqV (fun j => ph (a0, a1) s k (tt j)) m 0).1, .int .i64 (seqV (fun j => ph (a0, a1) s k (tt j)) m 0).2, .int .i64 (seqV (fun j => ph (a0, a1) s k (tt j)) m 1).1, .int .i64 (seqV (fun j => ph (a0, a1) s k (tt j)) m 1).2, .int .i64 (seqV (fun j => ph (a0, a1) s k (tt j)) m 2).1, .int .i64 (seqV (fun j => ph (a0, a1) s k (tt j)) m 2).2] ∧ Blk wr (wo.heap.size + 1) 31 #[.int .i64 (seqV (fun j => ph (c0, c1) s k (tt j)) m 0).1, .int .i64 (seqV (fun j => ph (c0, c1) s k (tt j)) m 0).2, .int .i64 (seqV (fun j => ph (c0, c1) s k (tt j)) m 1).1, .int .i64 (seqV (fun j => ph (c0, c1) s k (tt j)) m 1).2, .int .i64 (seqV (fun j => ph (c0, c1) s k (tt j)) m 2).1, .int .i64 (seqV (fun j => ph (c0, c1) s k (tt j)) m 2).2]) (fun i _ => 3 - (intOf i).toNat)
        case atStart => exact ⟨0, by omega, rfl, (by repeat (first | (with_reducible assumption) | ((with_reducible apply Blk.new_at); (first | (simp; done) | (simp; omega))) | (with_reducible apply Blk.drew) | (with_reducible refine Blk.alloc ?_ _) | (with_reducible apply blk_two) | ((with_reducible refine blk_far ?_ ?_ _); (· first | (simp; done) | (simp; omega) | omega)) | ((with_reducible apply blk_kept); (· with_reducible assumption)))), (by repeat (first | (with_reducible assumption) | ((with_reducible apply Blk.new_at); (first | (simp; done) | (simp; omega))) | (with_reducible apply Blk.drew) | (with_reducible refine Blk.alloc ?_ _) | (with_reducible apply blk_two) | ((with_reducible refine blk_far ?_ ?_ _); (· first | (simp; done) | (simp; omega) | omega)) | ((with_reducible apply blk_kept); (· with_reducible assumption)))), (by repeat (first | (with_reducible assumption) | ((with_reducible apply Blk.new_at); (first | (simp; done) | (simp; omega))) | (with_reducible apply Blk.drew) | (with_reducible refine Blk.alloc ?_ _) | (with_reducible apply blk_two) | ((with_reducible refine blk_far ?_ ?_ _); (· first | (simp; done) | (simp; omega) | omega)) | ((with_reducible apply blk_kept); (· with_reducible assumption)))), (by repeat (first | (with_reducible assumption) | ((with_reducible apply Blk.new_at); (first | (simp; done) | (simp; omega))) | (with_reducible apply Blk.drew) | (with_reducible refine Blk.alloc ?_ _) | (with_reducible apply blk_two) | ((with_reducible refine blk_far ?_ ?_ _); (· first | (simp; done) | (simp; omega) | omega)) | ((with_reducible apply blk_kept); (· with_reducible assumption)))), (by repeat (first | (with_reducible assumption) | ((with_reducible apply Blk.new_at); (first | (simp; done) | (simp; omega))) | (with_reducible apply Blk.drew) | (with_reducible refine Blk.alloc ?_ _) | (with_reducible apply blk_two) | ((with_reducible refine blk_far ?_ ?_ _); (· first | (simp; done) | (simp; omega) | omega)) | ((with_reducible apply blk_kept); (· with_reducible assumption)))), (by repeat (first | (with_reducible exact Below.refl _ _) | (with_reducible assumption) | ((with_reducible refine Below.alloc ?_ ?_ _); rotate_left; (· first | (simp; done) | (simp; omega) | omega)) | ((with_reducible refine Below.setCell ?_ ?_ _); rotate_left; (· first | (simp; done) | (simp; omega) | omega)) | (with_reducible apply Below.drew) | ((with_reducible apply below_step); (· with_reducible assumption); rotate_left; (· first | (simp; done) | (simp; omega) | omega)))), (by show Blk _ _ _ #[.int .i64 0, .int .i64 0, .int .i64 0, .int .i64 0, .int .i64 0, .int .i64 0]; exact (by repeat (first | (with_reducible assumption) | ((with_reducible apply Blk.new_at); (first | (simp; done) | (simp; omega))) | (with_reducible apply Blk.drew) | (with_reducible refine Blk.alloc ?_ _) | (with_reducible apply blk_two) | ((with_reducible refine blk_far ?_ ?_ _); (· first | (simp; done) | (simp; omega) | omega)) | ((with_reducible apply blk_kept); (· with_reducible assumption))))), (by show Blk _ _ _ #[.int .i64 0, .int .i64 0, .int .i64 0, .int .i64 0, .int .i64 0, .int .i64 0]; exact (by repeat (first | (with_reducible assumption) | ((with_reducible apply Blk.new_at); (first | (simp; done) | (simp; omega))) | (with_reducible apply Blk.drew) | (with_reducible refine Blk.alloc ?_ _) | (with_reducible apply blk_two) | ((with_reducible refine blk_far ?_ ?_ _); (· first | (simp; done) | (simp; omega) | omega)) | ((with_reducible apply blk_kept); (· with_reducible assumption)))))⟩
        case round =>
          obtain ⟨m, hm, rfl, MG, MH, MQ, MS, MB, MW, MV, MA⟩ := hrel
          have yg := MG.lt
          have yh := MH.lt
          have ya := MA.lt
          have yw := MW.size
          have yb := MB.lt
          by_cases hlm : m < 3
          · have hidx := fun w => tt_index hlm w
            obtain ⟨ht1, ht2⟩ := tt_bd hlm
            have hm1 : (0 : Int) ≤ (m : Int) := by omega
            have hm2 : (m : Int) < 3 := by omega
            have NG := Lib.hid MG
            have NH := Lib.hid MH
            have NV := Lib.hid MV
            have NA := Lib.hid MA
            have PA := ph_bd BA.out s k (tt m)
            have PC := ph_bd BC.out s k (tt m)
            have tA := Lib.hid (fun W => Turned_any a0 a1 ((k : Int) * s + tt m) W (inB_bd BA.out (by omega)) (by unfold inR; simp; omega) (inB_bd PA (by omega)))
            have tC := Lib.hid (fun W => Turned_any c0 c1 ((k : Int) * s + tt m) W (inB_bd BC.out (by omega)) (by unfold inR; simp; omega) (inB_bd PC (by omega)))
            clear PA PC
            obtain ⟨ga, gb, -, -⟩ := MG.two
            obtain ⟨ha, hb', -, -⟩ := MH.two
            clear MG MH MV MA
            obtain ⟨va, vb⟩ := six_at NV.out hlm
            obtain ⟨wa, wb⟩ := six_at NA.out hlm
            have fv := NV.out.frozen
            have fa := NA.out.frozen
            go_wp2_with fail
            refine (tA.out _).mono ?_
            rintro e w4 ⟨rfl, hb4⟩
            obtain ⟨hc4, hf4⟩ := ifs_of hb4; have hs4 := hb4.size; (try simp at hs4)
            go_wp2_with fail
            refine (tC.out _).mono ?_
            rintro e w5 ⟨rfl, hb5⟩
            obtain ⟨hc5, hf5⟩ := ifs_of hb5; have hs5 := hb5.size; (try simp at hs5)
            go_wp2_with fail
            (refine wp_region_calm [wo.heap.size, wo.heap.size + 1] [0, 1, 2, 3, 4] 3 (by kernel_rfl) rfl (by kernel_rfl) (by kernel_rfl) (by kernel_rfl) ?_; simp only [pickB, List.filterMap_cons, List.filterMap_nil, List.getElem?_toArray, List.getElem?_cons_zero, List.getElem?_cons_succ]; (repeat (refine quietL_plain rfl (fun K hK => ?_); (apply Exists.intro; refine ⟨fun wx hx => ?_, ?_⟩; (· (have hcx := ifs_ex hx); simp [go_sem, *, ↓IntWalk.iteOmega] <;> (first | rfl | exact ⟨rfl, rfl⟩ | fail)); (simp only [Act.put, List.setIfInBounds_toArray, List.set_cons_zero, List.set_cons_succ]; refine hK _ ?_; clear hK K)))); refine quietL_nil ?_)
            (refine anyB_one (i := 5) (by kernel_rfl) rfl rfl ?_; intro w6 hb6 K hK; obtain ⟨hc6, hf6⟩ := ifs_of hb6; have hs6 := hb6.size; (try simp at hs6); go_wp2; refine ⟨(by repeat (first | (with_reducible exact Ex.refl _ _) | (with_reducible assumption) | (with_reducible refine Ex.alloc ?_ _) | ((with_reducible refine Ex.set_in ?_ ?_ _); (· first | (left; simp; done) | (right; simp; done) | (right; simp; omega) | (right; omega))) | ((with_reducible apply Ex.step); (· with_reducible assumption)))), ?_⟩)
            (refine anyB_one (i := 6) (by kernel_rfl) rfl rfl ?_; intro w7 hb7 K hK; obtain ⟨hc7, hf7⟩ := ifs_of hb7; have hs7 := hb7.size; (try simp at hs7); go_wp2; refine ⟨(by repeat (first | (with_reducible exact Ex.refl _ _) | (with_reducible assumption) | (with_reducible refine Ex.alloc ?_ _) | ((with_reducible refine Ex.set_in ?_ ?_ _); (· first | (left; simp; done) | (right; simp; done) | (right; simp; omega) | (right; omega))) | ((with_reducible apply Ex.step); (· with_reducible assumption)))), ?_⟩)
            (refine anyB_one (i := 7) (by kernel_rfl) rfl rfl ?_; intro w8 hb8 K hK; obtain ⟨hc8, hf8⟩ := ifs_of hb8; have hs8 := hb8.size; (try simp at hs8); go_wp2; refine ⟨(by repeat (first | (with_reducible exact Ex.refl _ _) | (with_reducible assumption) | (with_reducible refine Ex.alloc ?_ _) | ((with_reducible refine Ex.set_in ?_ ?_ _); (· first | (left; simp; done) | (right; simp; done) | (right; simp; omega) | (right; omega))) | ((with_reducible apply Ex.step); (· with_reducible assumption)))), ?_⟩)
            (refine anyB_end (by kernel_rfl) ?_; intro w9 hb9; obtain ⟨hc9, hf9⟩ := ifs_of hb9; have hs9 := hb9.size; (try simp at hs9); simp only [Calm])
            go_wp2_with fail
            go_roundw
            case rel =>
              have xg := NG.out
              have xh := NH.out
              have xv := NV.out
              have xa := NA.out
              have hV : Blk ((w6.setCell ⟨wo.heap.size, m * 2, none⟩ (.int .i64 (tr (six ((k : Int) * s + tt m)) (a0, a1)).1)).setCell ⟨wo.heap.size, m * 2 + 1, none⟩ (.int .i64 (tr (six ((k : Int) * s + tt m)) (a0, a1)).2)) wo.heap.size 31 #[.int .i64 (seqV (fun j => ph (a0, a1) s k (tt j)) (m + 1) 0).1, .int .i64 (seqV (fun j => ph (a0, a1) s k (tt j)) (m + 1) 0).2, .int .i64 (seqV (fun j => ph (a0, a1) s k (tt j)) (m + 1) 1).1, .int .i64 (seqV (fun j => ph (a0, a1) s k (tt j)) (m + 1) 1).2, .int .i64 (seqV (fun j => ph (a0, a1) s k (tt j)) (m + 1) 2).1, .int .i64 (seqV (fun j => ph (a0, a1) s k (tt j)) (m + 1) 2).2] := by
                have x := six_set hlm (show Blk w6 wo.heap.size 31 #[.int .i64 (seqV (fun j => ph (a0, a1) s k (tt j)) m 0).1, .int .i64 (seqV (fun j => ph (a0, a1) s k (tt j)) m 0).2, .int .i64 (seqV (fun j => ph (a0, a1) s k (tt j)) m 1).1, .int .i64 (seqV (fun j => ph (a0, a1) s k (tt j)) m 1).2, .int .i64 (seqV (fun j => ph (a0, a1) s k (tt j)) m 2).1, .int .i64 (seqV (fun j => ph (a0, a1) s k (tt j)) m 2).2] from (by repeat (first | (with_reducible assumption) | ((with_reducible apply Blk.new_at); (first | (simp; done) | (simp; omega))) | (with_reducible apply Blk.drew) | (with_reducible refine Blk.alloc ?_ _) | (with_reducible apply blk_two) | ((with_reducible refine blk_far ?_ ?_ _); (· first | (simp; done) | (simp; omega) | omega)) | ((with_reducible apply blk_kept); (· with_reducible assumption))))) (seqV_succ (fun j => ph (a0, a1) s k (tt j)) 3 m)
                rw [seqV_here] at x
                exact x
              have hA : Blk ((w8.setCell ⟨wo.heap.size + 1, m * 2, none⟩ (.int .i64 (tr (six ((k : Int) * s + tt m)) (c0, c1)).1)).setCell ⟨wo.heap.size + 1, m * 2 + 1, none⟩ (.int .i64 (tr (six ((k : Int) * s + tt m)) (c0, c1)).2)) (wo.heap.size + 1) 31 #[.int .i64 (seqV (fun j => ph (c0, c1) s k (tt j)) (m + 1) 0).1, .int .i64 (seqV (fun j => ph (c0, c1) s k (tt j)) (m + 1) 0).2, .int .i64 (seqV (fun j => ph (c0, c1) s k (tt j)) (m + 1) 1).1, .int .i64 (seqV (fun j => ph (c0, c1) s k (tt j)) (m + 1) 1).2, .int .i64 (seqV (fun j => ph (c0, c1) s k (tt j)) (m + 1) 2).1, .int .i64 (seqV (fun j => ph (c0, c1) s k (tt j)) (m + 1) 2).2] := by
                have x := six_set hlm (show Blk w8 (wo.heap.size + 1) 31 #[.int .i64 (seqV (fun j => ph (c0, c1) s k (tt j)) m 0).1, .int .i64 (seqV (fun j => ph (c0, c1) s k (tt j)) m 0).2, .int .i64 (seqV (fun j => ph (c0, c1) s k (tt j)) m 1).1, .int .i64 (seqV (fun j => ph (c0, c1) s k (tt j)) m 1).2, .int .i64 (seqV (fun j => ph (c0, c1) s k (tt j)) m 2).1, .int .i64 (seqV (fun j => ph (c0, c1) s k (tt j)) m 2).2] from (by repeat (first | (with_reducible assumption) | ((with_reducible apply Blk.new_at); (first | (simp; done) | (simp; omega))) | (with_reducible apply Blk.drew) | (with_reducible refine Blk.alloc ?_ _) | (with_reducible apply blk_two) | ((with_reducible refine blk_far ?_ ?_ _); (· first | (simp; done) | (simp; omega) | omega)) | ((with_reducible apply blk_kept); (· with_reducible assumption))))) (seqV_succ (fun j => ph (c0, c1) s k (tt j)) 3 m)
                rw [seqV_here] at x
                exact x
              exact ⟨m + 1, by omega, by go_num, (by repeat (first | (with_reducible assumption) | ((with_reducible apply Blk.new_at); (first | (simp; done) | (simp; omega))) | (with_reducible apply Blk.drew) | (with_reducible refine Blk.alloc ?_ _) | (with_reducible apply blk_two) | ((with_reducible refine blk_far ?_ ?_ _); (· first | (simp; done) | (simp; omega) | omega)) | ((with_reducible apply blk_kept); (· with_reducible assumption)))), (by repeat (first | (with_reducible assumption) | ((with_reducible apply Blk.new_at); (first | (simp; done) | (simp; omega))) | (with_reducible apply Blk.drew) | (with_reducible refine Blk.alloc ?_ _) | (with_reducible apply blk_two) | ((with_reducible refine blk_far ?_ ?_ _); (· first | (simp; done) | (simp; omega) | omega)) | ((with_reducible apply blk_kept); (· with_reducible assumption)))), (by repeat (first | (with_reducible assumption) | ((with_reducible apply Blk.new_at); (first | (simp; done) | (simp; omega))) | (with_reducible apply Blk.drew) | (with_reducible refine Blk.alloc ?_ _) | (with_reducible apply blk_two) | ((with_reducible refine blk_far ?_ ?_ _); (· first | (simp; done) | (simp; omega) | omega)) | ((with_reducible apply blk_kept); (· with_reducible assumption)))), (by repeat (first | (with_reducible assumption) | ((with_reducible apply Blk.new_at); (first | (simp; done) | (simp; omega))) | (with_reducible apply Blk.drew) | (with_reducible refine Blk.alloc ?_ _) | (with_reducible apply blk_two) | ((with_reducible refine blk_far ?_ ?_ _); (· first | (simp; done) | (simp; omega) | omega)) | ((with_reducible apply blk_kept); (· with_reducible assumption)))), (by repeat (first | (with_reducible assumption) | ((with_reducible apply Blk.new_at); (first | (simp; done) | (simp; omega))) | (with_reducible apply Blk.drew) | (with_reducible refine Blk.alloc ?_ _) | (with_reducible apply blk_two) | ((with_reducible refine blk_far ?_ ?_ _); (· first | (simp; done) | (simp; omega) | omega)) | ((with_reducible apply blk_kept); (· with_reducible assumption)))), (by repeat (first | (with_reducible exact Below.refl _ _) | (with_reducible assumption) | ((with_reducible refine Below.alloc ?_ ?_ _); rotate_left; (· first | (simp; done) | (simp; omega) | omega)) | ((with_reducible refine Below.setCell ?_ ?_ _); rotate_left; (· first | (simp; done) | (simp; omega) | omega)) | (with_reducible apply Below.drew) | ((with_reducible apply below_step); (· with_reducible assumption); rotate_left; (· first | (simp; done) | (simp; omega) | omega)))), (by repeat (first | (with_reducible assumption) | ((with_reducible apply Blk.new_at); (first | (simp; done) | (simp; omega))) | (with_reducible apply Blk.drew) | (with_reducible refine Blk.alloc ?_ _) | (with_reducible apply blk_two) | ((with_reducible refine blk_far ?_ ?_ _); (· first | (simp; done) | (simp; omega) | omega)) | ((with_reducible apply blk_kept); (· with_reducible assumption)))), (by repeat (first | (with_reducible assumption) | ((with_reducible apply Blk.new_at); (first | (simp; done) | (simp; omega))) | (with_reducible apply Blk.drew) | (with_reducible refine Blk.alloc ?_ _) | (with_reducible apply blk_two) | ((with_reducible refine blk_far ?_ ?_ _); (· first | (simp; done) | (simp; omega) | omega)) | ((with_reducible apply blk_kept); (· with_reducible assumption))))⟩
            case measure => simp [intOf]; omega
          · obtain rfl : m = 3 := by omega
            have U0 : seqV (fun j => ph (a0, a1) s k (tt j)) 3 0 = ph (a0, a1) s k (tt 0) := seqV_done _ (by omega)
            have U1 : seqV (fun j => ph (a0, a1) s k (tt j)) 3 1 = ph (a0, a1) s k (tt 1) := seqV_done _ (by omega)
            have U2 : seqV (fun j => ph (a0, a1) s k (tt j)) 3 2 = ph (a0, a1) s k (tt 2) := seqV_done _ (by omega)
            have I0 : seqV (fun j => ph (c0, c1) s k (tt j)) 3 0 = ph (c0, c1) s k (tt 0) := seqV_done _ (by omega)
            have I1 : seqV (fun j => ph (c0, c1) s k (tt j)) 3 1 = ph (c0, c1) s k (tt 1) := seqV_done _ (by omega)
            have I2 : seqV (fun j => ph (c0, c1) s k (tt j)) 3 2 = ph (c0, c1) s k (tt 2) := seqV_done _ (by omega)
            generalize seqV (fun j => ph (a0, a1) s k (tt j)) 3 = U at *
            generalize seqV (fun j => ph (c0, c1) s k (tt j)) 3 = I at *
            have hbal := Lib.hid (balanced BA.out s k U U0 U1 U2)
            obtain ⟨hqb, hpw⟩ := power BA.out BC.out s k U I q HQ1.out HQ2.out U0 U1 U2 I0 I1 I2
            have HPW := Lib.hid hpw
            have HU : Small3 (U 0).1 (U 0).2 (U 1).1 (U 1).2 (U 2).1 (U 2).2 := by
              rw [U0, U1, U2]; exact ⟨inB_bd (ph_bd BA.out s k _) (by omega), inB_bd (ph_bd BA.out s k _) (by omega), inB_bd (ph_bd BA.out s k _) (by omega)⟩
            have HI : Small3 (I 0).1 (I 0).2 (I 1).1 (I 1).2 (I 2).1 (I 2).2 := by
              rw [I0, I1, I2]; exact ⟨inB_bd (ph_bd BC.out s k _) (by omega), inB_bd (ph_bd BC.out s k _) (by omega), inB_bd (ph_bd BC.out s k _) (by omega)⟩
            have HU' := Lib.hid HU
            have HI' := Lib.hid HI
            have HU0 := Lib.hid U0
            have HU1 := Lib.hid U1
            have qb := hqb
            obtain ⟨qb1, qb2, qb3, qb4⟩ := qb
            clear hpw HU HI U0 U1 U2 I0 I1 I2 hqb
            have NV := Lib.hid MV
            have NA := Lib.hid MA
            have NS := Lib.hid MS
            have NB := Lib.hid MB
            have NQ := Lib.hid MQ
            have hk1 : (0 : Int) ≤ (k : Int) := by omega
            have hk2 : (k : Int) < 6 := by omega
            have vv := MV.cell
            have aa := MA.cell
            obtain ⟨sa, sb⟩ := tw_at MS hlt
            obtain ⟨ta, tb⟩ := tw_at MB hlt
            have fs := MS.frozen
            have fb := MB.frozen
            obtain ⟨qa, qc, -, -⟩ := MQ.two
            clear MV MA MS MB MQ
            go_wp2_with fail
            (refine wp_region_calm [wc.heap.size, wc.heap.size + 1] [0, 1, 2, 3, 4, 5, 6] 3 (by kernel_rfl) rfl (by kernel_rfl) (by kernel_rfl) (by kernel_rfl) ?_; simp only [pickB, List.filterMap_cons, List.filterMap_nil, List.getElem?_toArray, List.getElem?_cons_zero, List.getElem?_cons_succ]; (repeat (refine quietL_plain rfl (fun K hK => ?_); (apply Exists.intro; refine ⟨fun wx hx => ?_, ?_⟩; (· (have hcx := ifs_ex hx); simp [go_sem, *, ↓IntWalk.iteOmega] <;> (first | rfl | exact ⟨rfl, rfl⟩ | fail)); (simp only [Act.put, List.setIfInBounds_toArray, List.set_cons_zero, List.set_cons_succ]; refine hK _ ?_; clear hK K)))); refine quietL_nil ?_)
            (refine anyB_one (i := 7) (by kernel_rfl) rfl rfl ?_; intro w4 hb4 K hK; obtain ⟨hc4, hf4⟩ := ifs_of hb4; have hs4 := hb4.size; (try simp at hs4); go_wp2; refine ⟨(by repeat (first | (with_reducible exact Ex.refl _ _) | (with_reducible assumption) | (with_reducible refine Ex.alloc ?_ _) | ((with_reducible refine Ex.set_in ?_ ?_ _); (· first | (left; simp; done) | (right; simp; done) | (right; simp; omega) | (right; omega))) | ((with_reducible apply Ex.step); (· with_reducible assumption)))), ?_⟩)
            (refine anyB_one (i := 8) (by kernel_rfl) rfl rfl ?_; intro w5 hb5 K hK; obtain ⟨hc5, hf5⟩ := ifs_of hb5; have hs5 := hb5.size; (try simp at hs5); go_wp2; refine ⟨(by repeat (first | (with_reducible exact Ex.refl _ _) | (with_reducible assumption) | (with_reducible refine Ex.alloc ?_ _) | ((with_reducible refine Ex.set_in ?_ ?_ _); (· first | (left; simp; done) | (right; simp; done) | (right; simp; omega) | (right; omega))) | ((with_reducible apply Ex.step); (· with_reducible assumption)))), ?_⟩)
            (refine anyB_one (i := 9) (by kernel_rfl) rfl rfl ?_; intro w6 hb6 K hK; obtain ⟨hc6, hf6⟩ := ifs_of hb6; have hs6 := hb6.size; (try simp at hs6); go_wp2; refine ⟨(by repeat (first | (with_reducible exact Ex.refl _ _) | (with_reducible assumption) | (with_reducible refine Ex.alloc ?_ _) | ((with_reducible refine Ex.set_in ?_ ?_ _); (· first | (left; simp; done) | (right; simp; done) | (right; simp; omega) | (right; omega))) | ((with_reducible apply Ex.step); (· with_reducible assumption)))), ?_⟩)
            (refine anyB_end (by kernel_rfl) ?_; intro w7 hb7; obtain ⟨hc7, hf7⟩ := ifs_of hb7; have hs7 := hb7.size; (try simp at hs7); simp only [Calm])
            go_wp2_with fail
            refine (Balanced_yes _ _ _ _ _ _ _ (hw.below (by repeat (first | (with_reducible exact Below.refl _ _) | (with_reducible assumption) | ((with_reducible refine Below.alloc ?_ ?_ _); rotate_left; (· first | (simp; done) | (simp; omega) | omega)) | ((with_reducible refine Below.setCell ?_ ?_ _); rotate_left; (· first | (simp; done) | (simp; omega) | omega)) | (with_reducible apply Below.drew) | ((with_reducible apply below_step); (· with_reducible assumption); rotate_left; (· first | (simp; done) | (simp; omega) | omega))))) HU'.out hbal.out.1 hbal.out.2.1 hbal.out.2.2.1 hbal.out.2.2.2).mono ?_
            rintro e w8 ⟨rfl, hb8⟩
            obtain ⟨hc8, hf8⟩ := ifs_of hb8; have hs8 := hb8.size; (try simp at hs8)
            go_wp2_with fail
            refine (Power_any U I _ HU'.out HI'.out).mono ?_
            rw [HPW.out, show wrap64 (wrap64 (2 * ((3 * q.1, 3 * q.2) : Int × Int).1) - ((3 * q.1, 3 * q.2) : Int × Int).2) = 6 * q.1 - 3 * q.2 from by simp only []; rw [w64 (2 * (3 * q.1)) (by omega) (by omega), w64 _ (by omega) (by omega)]; omega]
            rintro e w9 ⟨rfl, hb9⟩
            obtain ⟨hc9, hf9⟩ := ifs_of hb9; have hs9 := hb9.size; (try simp at hs9)
            go_wp2
            go_roundw
            case rel =>
              have xs := NS.out
              have xb := NB.out
              have xq := NQ.out
              have hS : Blk ((w4.setCell ⟨wc.heap.size, k * 2, none⟩ (.int .i64 (U 0).1)).setCell ⟨wc.heap.size, k * 2 + 1, none⟩ (.int .i64 (U 0).2)) wc.heap.size 27 #[.int .i64 (seqV (fun j => ph (a0, a1) s j (tt 0)) (k + 1) 0).1, .int .i64 (seqV (fun j => ph (a0, a1) s j (tt 0)) (k + 1) 0).2, .int .i64 (seqV (fun j => ph (a0, a1) s j (tt 0)) (k + 1) 1).1, .int .i64 (seqV (fun j => ph (a0, a1) s j (tt 0)) (k + 1) 1).2, .int .i64 (seqV (fun j => ph (a0, a1) s j (tt 0)) (k + 1) 2).1, .int .i64 (seqV (fun j => ph (a0, a1) s j (tt 0)) (k + 1) 2).2, .int .i64 (seqV (fun j => ph (a0, a1) s j (tt 0)) (k + 1) 3).1, .int .i64 (seqV (fun j => ph (a0, a1) s j (tt 0)) (k + 1) 3).2, .int .i64 (seqV (fun j => ph (a0, a1) s j (tt 0)) (k + 1) 4).1, .int .i64 (seqV (fun j => ph (a0, a1) s j (tt 0)) (k + 1) 4).2, .int .i64 (seqV (fun j => ph (a0, a1) s j (tt 0)) (k + 1) 5).1, .int .i64 (seqV (fun j => ph (a0, a1) s j (tt 0)) (k + 1) 5).2] := by
                have x := tw_set hlt (show Blk w4 wc.heap.size 27 #[.int .i64 (seqV (fun j => ph (a0, a1) s j (tt 0)) k 0).1, .int .i64 (seqV (fun j => ph (a0, a1) s j (tt 0)) k 0).2, .int .i64 (seqV (fun j => ph (a0, a1) s j (tt 0)) k 1).1, .int .i64 (seqV (fun j => ph (a0, a1) s j (tt 0)) k 1).2, .int .i64 (seqV (fun j => ph (a0, a1) s j (tt 0)) k 2).1, .int .i64 (seqV (fun j => ph (a0, a1) s j (tt 0)) k 2).2, .int .i64 (seqV (fun j => ph (a0, a1) s j (tt 0)) k 3).1, .int .i64 (seqV (fun j => ph (a0, a1) s j (tt 0)) k 3).2, .int .i64 (seqV (fun j => ph (a0, a1) s j (tt 0)) k 4).1, .int .i64 (seqV (fun j => ph (a0, a1) s j (tt 0)) k 4).2, .int .i64 (seqV (fun j => ph (a0, a1) s j (tt 0)) k 5).1, .int .i64 (seqV (fun j => ph (a0, a1) s j (tt 0)) k 5).2] from (by repeat (first | (with_reducible assumption) | ((with_reducible apply Blk.new_at); (first | (simp; done) | (simp; omega))) | (with_reducible apply Blk.drew) | (with_reducible refine Blk.alloc ?_ _) | (with_reducible apply blk_two) | ((with_reducible refine blk_far ?_ ?_ _); (· first | (simp; done) | (simp; omega) | omega)) | ((with_reducible apply blk_kept); (· with_reducible assumption))))) (seqV_succ (fun j => ph (a0, a1) s j (tt 0)) 6 k)
                rw [seqV_here] at x
                simp only [← HU0.out] at x
                exact x
              have hB : Blk ((w6.setCell ⟨wc.heap.size + 1, k * 2, none⟩ (.int .i64 (U 1).1)).setCell ⟨wc.heap.size + 1, k * 2 + 1, none⟩ (.int .i64 (U 1).2)) (wc.heap.size + 1) 27 #[.int .i64 (seqV (fun j => ph (a0, a1) s j (tt 1)) (k + 1) 0).1, .int .i64 (seqV (fun j => ph (a0, a1) s j (tt 1)) (k + 1) 0).2, .int .i64 (seqV (fun j => ph (a0, a1) s j (tt 1)) (k + 1) 1).1, .int .i64 (seqV (fun j => ph (a0, a1) s j (tt 1)) (k + 1) 1).2, .int .i64 (seqV (fun j => ph (a0, a1) s j (tt 1)) (k + 1) 2).1, .int .i64 (seqV (fun j => ph (a0, a1) s j (tt 1)) (k + 1) 2).2, .int .i64 (seqV (fun j => ph (a0, a1) s j (tt 1)) (k + 1) 3).1, .int .i64 (seqV (fun j => ph (a0, a1) s j (tt 1)) (k + 1) 3).2, .int .i64 (seqV (fun j => ph (a0, a1) s j (tt 1)) (k + 1) 4).1, .int .i64 (seqV (fun j => ph (a0, a1) s j (tt 1)) (k + 1) 4).2, .int .i64 (seqV (fun j => ph (a0, a1) s j (tt 1)) (k + 1) 5).1, .int .i64 (seqV (fun j => ph (a0, a1) s j (tt 1)) (k + 1) 5).2] := by
                have x := tw_set hlt (show Blk w6 (wc.heap.size + 1) 27 #[.int .i64 (seqV (fun j => ph (a0, a1) s j (tt 1)) k 0).1, .int .i64 (seqV (fun j => ph (a0, a1) s j (tt 1)) k 0).2, .int .i64 (seqV (fun j => ph (a0, a1) s j (tt 1)) k 1).1, .int .i64 (seqV (fun j => ph (a0, a1) s j (tt 1)) k 1).2, .int .i64 (seqV (fun j => ph (a0, a1) s j (tt 1)) k 2).1, .int .i64 (seqV (fun j => ph (a0, a1) s j (tt 1)) k 2).2, .int .i64 (seqV (fun j => ph (a0, a1) s j (tt 1)) k 3).1, .int .i64 (seqV (fun j => ph (a0, a1) s j (tt 1)) k 3).2, .int .i64 (seqV (fun j => ph (a0, a1) s j (tt 1)) k 4).1, .int .i64 (seqV (fun j => ph (a0, a1) s j (tt 1)) k 4).2, .int .i64 (seqV (fun j => ph (a0, a1) s j (tt 1)) k 5).1, .int .i64 (seqV (fun j => ph (a0, a1) s j (tt 1)) k 5).2] from (by repeat (first | (with_reducible assumption) | ((with_reducible apply Blk.new_at); (first | (simp; done) | (simp; omega))) | (with_reducible apply Blk.drew) | (with_reducible refine Blk.alloc ?_ _) | (with_reducible apply blk_two) | ((with_reducible refine blk_far ?_ ?_ _); (· first | (simp; done) | (simp; omega) | omega)) | ((with_reducible apply blk_kept); (· with_reducible assumption))))) (seqV_succ (fun j => ph (a0, a1) s j (tt 1)) 6 k)
                rw [seqV_here] at x
                simp only [← HU1.out] at x
                exact x
              exact ⟨k + 1, by omega, by go_num, (by repeat (first | (with_reducible assumption) | ((with_reducible apply Blk.new_at); (first | (simp; done) | (simp; omega))) | (with_reducible apply Blk.drew) | (with_reducible refine Blk.alloc ?_ _) | (with_reducible apply blk_two) | ((with_reducible refine blk_far ?_ ?_ _); (· first | (simp; done) | (simp; omega) | omega)) | ((with_reducible apply blk_kept); (· with_reducible assumption)))), (by repeat (first | (with_reducible assumption) | ((with_reducible apply Blk.new_at); (first | (simp; done) | (simp; omega))) | (with_reducible apply Blk.drew) | (with_reducible refine Blk.alloc ?_ _) | (with_reducible apply blk_two) | ((with_reducible refine blk_far ?_ ?_ _); (· first | (simp; done) | (simp; omega) | omega)) | ((with_reducible apply blk_kept); (· with_reducible assumption)))), (by repeat (first | (with_reducible assumption) | ((with_reducible apply Blk.new_at); (first | (simp; done) | (simp; omega))) | (with_reducible apply Blk.drew) | (with_reducible refine Blk.alloc ?_ _) | (with_reducible apply blk_two) | ((with_reducible refine blk_far ?_ ?_ _); (· first | (simp; done) | (simp; omega) | omega)) | ((with_reducible apply blk_kept); (· with_reducible assumption)))), (by repeat (first | (with_reducible assumption) | ((with_reducible apply Blk.new_at); (first | (simp; done) | (simp; omega))) | (with_reducible apply Blk.drew) | (with_reducible refine Blk.alloc ?_ _) | (with_reducible apply blk_two) | ((with_reducible refine blk_far ?_ ?_ _); (· first | (simp; done) | (simp; omega) | omega)) | ((with_reducible apply blk_kept); (· with_reducible assumption)))), (by repeat (first | (with_reducible assumption) | ((with_reducible apply Blk.new_at); (first | (simp; done) | (simp; omega))) | (with_reducible apply Blk.drew) | (with_reducible refine Blk.alloc ?_ _) | (with_reducible apply blk_two) | ((with_reducible refine blk_far ?_ ?_ _); (· first | (simp; done) | (simp; omega) | omega)) | ((with_reducible apply blk_kept); (· with_reducible assumption)))), (by repeat (first | (with_reducible exact Below.refl _ _) | (with_reducible assumption) | ((with_reducible refine Below.alloc ?_ ?_ _); rotate_left; (· first | (simp; done) | (simp; omega) | omega)) | ((with_reducible refine Below.setCell ?_ ?_ _); rotate_left; (· first | (simp; done) | (simp; omega) | omega)) | (with_reducible apply Below.drew) | ((with_reducible apply below_step); (· with_reducible assumption); rotate_left; (· first | (simp; done) | (simp; omega) | omega))))⟩
            case measure => simp [intOf]; omega
      · obtain rfl : k = 6 := by omega
        have NG := Lib.hid LG
        have NS := Lib.hid LS
        have NB := Lib.hid LB
        clear LG LH LQ LS LB
        have zg := NG.out.lt
        have zs := NS.out.lt
        have Z0 : ∀ j, j < 6 → seqV (fun j => ph (a0, a1) s j (tt 0)) 6 j = ph (a0, a1) s j (tt 0) := fun j hj => seqV_done _ hj
        have Z1 : ∀ j, j < 6 → seqV (fun j => ph (a0, a1) s j (tt 1)) 6 j = ph (a0, a1) s j (tt 1) := fun j hj => seqV_done _ hj
        have E0 : ∀ j, j < 6 → frE (seqV (fun j => ph (a0, a1) s j (tt 0)) 6) s j = (a0, a1) := fun j hj => still BA.out s hj _ (Z0 j hj)
        have E1 : ∀ j, j < 6 → frE (seqV (fun j => ph (a0, a1) s j (tt 1)) 6) s j = tm 4 (a0, a1) := fun j hj => late BA.out s hj _ (Z1 j hj)
        have HE0 := Lib.hid E0
        have HE1 := Lib.hid E1
        have HZ0 := Lib.hid Z0
        have HZ1 := Lib.hid Z1
        clear E0 E1 Z0 Z1
        go_wp2_with (at_builtin; refine wpList_fresh 40 25 2 16 elemEis rfl (.tmp 141) (.tmp 142) rfl rfl wc.heap.size 6 6 27 #[.int .i64 (seqV (fun j => ph (a0, a1) s j (tt 0)) 6 0).1, .int .i64 (seqV (fun j => ph (a0, a1) s j (tt 0)) 6 0).2, .int .i64 (seqV (fun j => ph (a0, a1) s j (tt 0)) 6 1).1, .int .i64 (seqV (fun j => ph (a0, a1) s j (tt 0)) 6 1).2, .int .i64 (seqV (fun j => ph (a0, a1) s j (tt 0)) 6 2).1, .int .i64 (seqV (fun j => ph (a0, a1) s j (tt 0)) 6 2).2, .int .i64 (seqV (fun j => ph (a0, a1) s j (tt 0)) 6 3).1, .int .i64 (seqV (fun j => ph (a0, a1) s j (tt 0)) 6 3).2, .int .i64 (seqV (fun j => ph (a0, a1) s j (tt 0)) 6 4).1, .int .i64 (seqV (fun j => ph (a0, a1) s j (tt 0)) 6 4).2, .int .i64 (seqV (fun j => ph (a0, a1) s j (tt 0)) 6 5).1, .int .i64 (seqV (fun j => ph (a0, a1) s j (tt 0)) 6 5).2] rfl NS.out rfl (tw_one _) (by decide) (by unfold maxLen; decide) (by decide) ?_)
        intro r1 cap1 w4 ho1 hb4
        obtain ⟨hc4, hf4⟩ := ifs_of hb4; have hs4 := hb4.size; (try simp at hs4)
        go_wp2_with fail
        refine (Framed_any (seqV (fun j => ph (a0, a1) s j (tt 0)) 6) s (r1 + 1) _ cap1 _ (by omega) (by omega) (by have := ho1.lt; omega) (own_nums ho1) (fun j hj => by rw [HZ0.out j hj]; exact inB_bd (ph_bd BA.out s j _) (by omega)) (fun j hj => by rw [HE0.out j hj]; exact inB_bd BA.out (by omega))).mono ?_
        rintro e w5 ⟨r2, rfl, hB5, hb5⟩
        obtain ⟨hc5, hf5⟩ := ifs_of hb5; have hs5 := hb5.size; (try simp at hs5)
        go_wp2_with (at_builtin; refine wpList_fresh 40 25 2 16 elemEis rfl (.tmp 149) (.tmp 150) rfl rfl (wc.heap.size + 1) 6 6 27 #[.int .i64 (seqV (fun j => ph (a0, a1) s j (tt 1)) 6 0).1, .int .i64 (seqV (fun j => ph (a0, a1) s j (tt 1)) 6 0).2, .int .i64 (seqV (fun j => ph (a0, a1) s j (tt 1)) 6 1).1, .int .i64 (seqV (fun j => ph (a0, a1) s j (tt 1)) 6 1).2, .int .i64 (seqV (fun j => ph (a0, a1) s j (tt 1)) 6 2).1, .int .i64 (seqV (fun j => ph (a0, a1) s j (tt 1)) 6 2).2, .int .i64 (seqV (fun j => ph (a0, a1) s j (tt 1)) 6 3).1, .int .i64 (seqV (fun j => ph (a0, a1) s j (tt 1)) 6 3).2, .int .i64 (seqV (fun j => ph (a0, a1) s j (tt 1)) 6 4).1, .int .i64 (seqV (fun j => ph (a0, a1) s j (tt 1)) 6 4).2, .int .i64 (seqV (fun j => ph (a0, a1) s j (tt 1)) 6 5).1, .int .i64 (seqV (fun j => ph (a0, a1) s j (tt 1)) 6 5).2] rfl (by have x := NB.out; exact (by repeat (first | (with_reducible assumption) | ((with_reducible apply Blk.new_at); (first | (simp; done) | (simp; omega))) | (with_reducible apply Blk.drew) | (with_reducible refine Blk.alloc ?_ _) | (with_reducible apply blk_two) | ((with_reducible refine blk_far ?_ ?_ _); (· first | (simp; done) | (simp; omega) | omega)) | ((with_reducible apply blk_kept); (· with_reducible assumption))))) rfl (tw_one _) (by decide) (by unfold maxLen; decide) (by decide) ?_)
        intro r3 cap3 w6 ho3 hb6
        obtain ⟨hc6, hf6⟩ := ifs_of hb6; have hs6 := hb6.size; (try simp at hs6)
        go_wp2_with fail
        refine (Framed_any (seqV (fun j => ph (a0, a1) s j (tt 1)) 6) s (r3 + 1) _ cap3 _ (by omega) (by omega) (by have := ho3.lt; omega) (own_nums ho3) (fun j hj => by rw [HZ1.out j hj]; exact inB_bd (ph_bd BA.out s j _) (by omega)) (fun j hj => by rw [HE1.out j hj, tm_rot BA.out]; exact inB_bd (rot_bd BA.out (by omega)) (by omega))).mono ?_
        rintro e w7 ⟨r4, rfl, hB7, hb7⟩
        obtain ⟨hc7, hf7⟩ := ifs_of hb7; have hs7 := hb7.size; (try simp at hs7)
        have ss := NS.out.cell
        go_wp2_with fail
        refine (Spectrum_any (seqV (fun j => ph (a0, a1) s j (tt 0)) 6) _ (fun j hj => by rw [HZ0.out j hj]; exact inB_bd (ph_bd BA.out s j _) (by omega))).mono ?_
        rintro e w8 ⟨rfl, hb8⟩
        obtain ⟨hc8, hf8⟩ := ifs_of hb8; have hs8 := hb8.size; (try simp at hs8)
        go_wp2_with fail
        go_loopw [185] (fun i wr => ∃ k : Nat, k ≤ 6 ∧ i = .int .i64 k ∧ Blk wr g 25 #[.int .i64 a0, .int .i64 a1] ∧ Blk wr r2 25 #[.int .i64 (frV (seqV (fun j => ph (a0, a1) s j (tt 0)) 6) s 6 0).1, .int .i64 (frV (seqV (fun j => ph (a0, a1) s j (tt 0)) 6) s 6 0).2, .int .i64 (frV (seqV (fun j => ph (a0, a1) s j (tt 0)) 6) s 6 1).1, .int .i64 (frV (seqV (fun j => ph (a0, a1) s j (tt 0)) 6) s 6 1).2, .int .i64 (frV (seqV (fun j => ph (a0, a1) s j (tt 0)) 6) s 6 2).1, .int .i64 (frV (seqV (fun j => ph (a0, a1) s j (tt 0)) 6) s 6 2).2, .int .i64 (frV (seqV (fun j => ph (a0, a1) s j (tt 0)) 6) s 6 3).1, .int .i64 (frV (seqV (fun j => ph (a0, a1) s j (tt 0)) 6) s 6 3).2, .int .i64 (frV (seqV (fun j => ph (a0, a1) s j (tt 0)) 6) s 6 4).1, .int .i64 (frV (seqV (fun j => ph (a0, a1) s j (tt 0)) 6) s 6 4).2, .int .i64 (frV (seqV (fun j => ph (a0, a1) s j (tt 0)) 6) s 6 5).1, .int .i64 (frV (seqV (fun j => ph (a0, a1) s j (tt 0)) 6) s 6 5).2] ∧ Blk wr r4 25 #[.int .i64 (frV (seqV (fun j => ph (a0, a1) s j (tt 1)) 6) s 6 0).1, .int .i64 (frV (seqV (fun j => ph (a0, a1) s j (tt 1)) 6) s 6 0).2, .int .i64 (frV (seqV (fun j => ph (a0, a1) s j (tt 1)) 6) s 6 1).1, .int .i64 (frV (seqV (fun j => ph (a0, a1) s j (tt 1)) 6) s 6 1).2, .int .i64 (frV (seqV (fun j => ph (a0, a1) s j (tt 1)) 6) s 6 2).1, .int .i64 (frV (seqV (fun j => ph (a0, a1) s j (tt 1)) 6) s 6 2).2, .int .i64 (frV (seqV (fun j => ph (a0, a1) s j (tt 1)) 6) s 6 3).1, .int .i64 (frV (seqV (fun j => ph (a0, a1) s j (tt 1)) 6) s 6 3).2, .int .i64 (frV (seqV (fun j => ph (a0, a1) s j (tt 1)) 6) s 6 4).1, .int .i64 (frV (seqV (fun j => ph (a0, a1) s j (tt 1)) 6) s 6 4).2, .int .i64 (frV (seqV (fun j => ph (a0, a1) s j (tt 1)) 6) s 6 5).1, .int .i64 (frV (seqV (fun j => ph (a0, a1) s j (tt 1)) 6) s 6 5).2] ∧ Blk wr w8.heap.size 27 #[.int .i64 (spV (seqV (fun j => ph (a0, a1) s j (tt 0)) 6) 6 0).1, .int .i64 (spV (seqV (fun j => ph (a0, a1) s j (tt 0)) 6) 6 0).2, .int .i64 (spV (seqV (fun j => ph (a0, a1) s j (tt 0)) 6) 6 1).1, .int .i64 (spV (seqV (fun j => ph (a0, a1) s j (tt 0)) 6) 6 1).2, .int .i64 (spV (seqV (fun j => ph (a0, a1) s j (tt 0)) 6) 6 2).1, .int .i64 (spV (seqV (fun j => ph (a0, a1) s j (tt 0)) 6) 6 2).2, .int .i64 (spV (seqV (fun j => ph (a0, a1) s j (tt 0)) 6) 6 3).1, .int .i64 (spV (seqV (fun j => ph (a0, a1) s j (tt 0)) 6) 6 3).2, .int .i64 (spV (seqV (fun j => ph (a0, a1) s j (tt 0)) 6) 6 4).1, .int .i64 (spV (seqV (fun j => ph (a0, a1) s j (tt 0)) 6) 6 4).2, .int .i64 (spV (seqV (fun j => ph (a0, a1) s j (tt 0)) 6) 6 5).1, .int .i64 (spV (seqV (fun j => ph (a0, a1) s j (tt 0)) 6) 6 5).2] ∧ Below w.heap.size w wr) (fun i _ => 6 - (intOf i).toNat)
        case atStart =>
          have xg := NG.out
          have xs := NS.out
          exact ⟨0, by omega, rfl, (by repeat (first | (with_reducible assumption) | ((with_reducible apply Blk.new_at); (first | (simp; done) | (simp; omega))) | (with_reducible apply Blk.drew) | (with_reducible refine Blk.alloc ?_ _) | (with_reducible apply blk_two) | ((with_reducible refine blk_far ?_ ?_ _); (· first | (simp; done) | (simp; omega) | omega)) | ((with_reducible apply blk_kept); (· with_reducible assumption)))), (by repeat (first | (with_reducible assumption) | ((with_reducible apply Blk.new_at); (first | (simp; done) | (simp; omega))) | (with_reducible apply Blk.drew) | (with_reducible refine Blk.alloc ?_ _) | (with_reducible apply blk_two) | ((with_reducible refine blk_far ?_ ?_ _); (· first | (simp; done) | (simp; omega) | omega)) | ((with_reducible apply blk_kept); (· with_reducible assumption)))), (by repeat (first | (with_reducible assumption) | ((with_reducible apply Blk.new_at); (first | (simp; done) | (simp; omega))) | (with_reducible apply Blk.drew) | (with_reducible refine Blk.alloc ?_ _) | (with_reducible apply blk_two) | ((with_reducible refine blk_far ?_ ?_ _); (· first | (simp; done) | (simp; omega) | omega)) | ((with_reducible apply blk_kept); (· with_reducible assumption)))), (by repeat (first | (with_reducible assumption) | ((with_reducible apply Blk.new_at); (first | (simp; done) | (simp; omega))) | (with_reducible apply Blk.drew) | (with_reducible refine Blk.alloc ?_ _) | (with_reducible apply blk_two) | ((with_reducible refine blk_far ?_ ?_ _); (· first | (simp; done) | (simp; omega) | omega)) | ((with_reducible apply blk_kept); (· with_reducible assumption)))), (by repeat (first | (with_reducible exact Below.refl _ _) | (with_reducible assumption) | ((with_reducible refine Below.alloc ?_ ?_ _); rotate_left; (· first | (simp; done) | (simp; omega) | omega)) | ((with_reducible refine Below.setCell ?_ ?_ _); rotate_left; (· first | (simp; done) | (simp; omega) | omega)) | (with_reducible apply Below.drew) | ((with_reducible apply below_step); (· with_reducible assumption); rotate_left; (· first | (simp; done) | (simp; omega) | omega))))⟩
        case round =>
          obtain ⟨k, hk, rfl, LG, L2, L4, L5, LW⟩ := hrel
          have lg := LG.lt
          have l2 := L2.lt
          have l4 := L4.lt
          have l5 := L5.lt
          have lw := LW.size
          by_cases hlt : k < 6
          · have hd : decide ((k : Int) < 6) = true := by simp; omega
            have hone : (wrap64 (s.tmod 6 + 6)).tmod 6 = (six s : Int) := by
              have h1 := six_cast s
              have h2 := Int.tmod_lt_of_pos s (b := 6) (by omega)
              have h3 := Int.neg_tmod s 6
              have h4 := Int.tmod_lt_of_pos (-s) (b := 6) (by omega)
              have h5 := Int.tmod_def s 6
              rw [w64 _ (by omega) (by omega), Int.tmod_eq_emod_of_nonneg (by omega)]
              omega
            have hL : spV (seqV (fun j => ph (a0, a1) s j (tt 0)) 6) 6 k = if k = six s then (6 * a0, 6 * a1) else (0, 0) := by
              have x := lone BA.out s (seqV (fun j => ph (a0, a1) s j (tt 0)) 6) HZ0.out hlt
              unfold spV
              rw [if_pos hlt]
              exact x
            have HL := Lib.hid hL
            obtain ⟨ga, gb, -, -⟩ := LG.two
            go_upto_if 191 with fail
            go_cut [35] from 189 to 199 (fun s35 wx => s35 = .pointer (some ⟨wr.heap.size, 0, none⟩) ∧ Blk wx wr.heap.size 25 #[.int .i64 (spV (seqV (fun j => ph (a0, a1) s j (tt 0)) 6) 6 k).1, .int .i64 (spV (seqV (fun j => ph (a0, a1) s j (tt 0)) 6) 6 k).2] ∧ Below wr.heap.size wr wx)
            case first =>
              clear hL
              obtain ⟨b1, b2, b3, b4⟩ := BA.out
              simp only [] at b1 b2 b3 b4
              go_wp2_with fail
              · rename_i hz
                have hko : k = six s := by have h := hz; simp at h; omega
                have hL := HL.out
                rw [if_pos hko] at hL
                clear hko
                go_meet
                refine ⟨rfl, ?_, (by repeat (first | (with_reducible exact Below.refl _ _) | (with_reducible assumption) | ((with_reducible refine Below.alloc ?_ ?_ _); rotate_left; (· first | (simp; done) | (simp; omega) | omega)) | ((with_reducible refine Below.setCell ?_ ?_ _); rotate_left; (· first | (simp; done) | (simp; omega) | omega)) | (with_reducible apply Below.drew) | ((with_reducible apply below_step); (· with_reducible assumption); rotate_left; (· first | (simp; done) | (simp; omega) | omega))))⟩
                rw [hL]
                show Blk _ _ _ #[.int .i64 (6 * a0), .int .i64 (6 * a1)]
                exact (by repeat (first | (with_reducible assumption) | ((with_reducible apply Blk.new_at); (first | (simp; done) | (simp; omega))) | (with_reducible apply Blk.drew) | (with_reducible refine Blk.alloc ?_ _) | (with_reducible apply blk_two) | ((with_reducible refine blk_far ?_ ?_ _); (· first | (simp; done) | (simp; omega) | omega)) | ((with_reducible apply blk_kept); (· with_reducible assumption))))
              · rename_i hz
                have hko : ¬ k = six s := by have h := hz; simp at h; omega
                have hL := HL.out
                rw [if_neg hko] at hL
                clear hko
                go_meet
                refine ⟨rfl, ?_, (by repeat (first | (with_reducible exact Below.refl _ _) | (with_reducible assumption) | ((with_reducible refine Below.alloc ?_ ?_ _); rotate_left; (· first | (simp; done) | (simp; omega) | omega)) | ((with_reducible refine Below.setCell ?_ ?_ _); rotate_left; (· first | (simp; done) | (simp; omega) | omega)) | (with_reducible apply Below.drew) | ((with_reducible apply below_step); (· with_reducible assumption); rotate_left; (· first | (simp; done) | (simp; omega) | omega))))⟩
                rw [hL]
                show Blk _ _ _ #[.int .i64 0, .int .i64 0]
                exact (by repeat (first | (with_reducible assumption) | ((with_reducible apply Blk.new_at); (first | (simp; done) | (simp; omega))) | (with_reducible apply Blk.drew) | (with_reducible refine Blk.alloc ?_ _) | (with_reducible apply blk_two) | ((with_reducible refine blk_far ?_ ?_ _); (· first | (simp; done) | (simp; omega) | omega)) | ((with_reducible apply blk_kept); (· with_reducible assumption))))
            case rest =>
              obtain ⟨rfl, C1, CB⟩ := hcut
              clear hL hone HL ga gb
              have hcs := CB.size
              have hcl := C1.lt
              have E0 : frV (seqV (fun j => ph (a0, a1) s j (tt 0)) 6) s 6 k = (a0, a1) := by unfold frV; rw [if_pos hlt]; exact HE0.out k hlt
              have E1 : frV (seqV (fun j => ph (a0, a1) s j (tt 1)) 6) s 6 k = tm 4 (a0, a1) := by unfold frV; rw [if_pos hlt]; exact HE1.out k hlt
              have KG : Blk wc g 25 #[.int .i64 a0, .int .i64 a1] := LG.below CB lg
              have K2 : Blk wc r2 25 #[.int .i64 (frV (seqV (fun j => ph (a0, a1) s j (tt 0)) 6) s 6 0).1, .int .i64 (frV (seqV (fun j => ph (a0, a1) s j (tt 0)) 6) s 6 0).2, .int .i64 (frV (seqV (fun j => ph (a0, a1) s j (tt 0)) 6) s 6 1).1, .int .i64 (frV (seqV (fun j => ph (a0, a1) s j (tt 0)) 6) s 6 1).2, .int .i64 (frV (seqV (fun j => ph (a0, a1) s j (tt 0)) 6) s 6 2).1, .int .i64 (frV (seqV (fun j => ph (a0, a1) s j (tt 0)) 6) s 6 2).2, .int .i64 (frV (seqV (fun j => ph (a0, a1) s j (tt 0)) 6) s 6 3).1, .int .i64 (frV (seqV (fun j => ph (a0, a1) s j (tt 0)) 6) s 6 3).2, .int .i64 (frV (seqV (fun j => ph (a0, a1) s j (tt 0)) 6) s 6 4).1, .int .i64 (frV (seqV (fun j => ph (a0, a1) s j (tt 0)) 6) s 6 4).2, .int .i64 (frV (seqV (fun j => ph (a0, a1) s j (tt 0)) 6) s 6 5).1, .int .i64 (frV (seqV (fun j => ph (a0, a1) s j (tt 0)) 6) s 6 5).2] := L2.below CB l2
              have K4 : Blk wc r4 25 #[.int .i64 (frV (seqV (fun j => ph (a0, a1) s j (tt 1)) 6) s 6 0).1, .int .i64 (frV (seqV (fun j => ph (a0, a1) s j (tt 1)) 6) s 6 0).2, .int .i64 (frV (seqV (fun j => ph (a0, a1) s j (tt 1)) 6) s 6 1).1, .int .i64 (frV (seqV (fun j => ph (a0, a1) s j (tt 1)) 6) s 6 1).2, .int .i64 (frV (seqV (fun j => ph (a0, a1) s j (tt 1)) 6) s 6 2).1, .int .i64 (frV (seqV (fun j => ph (a0, a1) s j (tt 1)) 6) s 6 2).2, .int .i64 (frV (seqV (fun j => ph (a0, a1) s j (tt 1)) 6) s 6 3).1, .int .i64 (frV (seqV (fun j => ph (a0, a1) s j (tt 1)) 6) s 6 3).2, .int .i64 (frV (seqV (fun j => ph (a0, a1) s j (tt 1)) 6) s 6 4).1, .int .i64 (frV (seqV (fun j => ph (a0, a1) s j (tt 1)) 6) s 6 4).2, .int .i64 (frV (seqV (fun j => ph (a0, a1) s j (tt 1)) 6) s 6 5).1, .int .i64 (frV (seqV (fun j => ph (a0, a1) s j (tt 1)) 6) s 6 5).2] := L4.below CB l4
              have K5 : Blk wc w8.heap.size 27 #[.int .i64 (spV (seqV (fun j => ph (a0, a1) s j (tt 0)) 6) 6 0).1, .int .i64 (spV (seqV (fun j => ph (a0, a1) s j (tt 0)) 6) 6 0).2, .int .i64 (spV (seqV (fun j => ph (a0, a1) s j (tt 0)) 6) 6 1).1, .int .i64 (spV (seqV (fun j => ph (a0, a1) s j (tt 0)) 6) 6 1).2, .int .i64 (spV (seqV (fun j => ph (a0, a1) s j (tt 0)) 6) 6 2).1, .int .i64 (spV (seqV (fun j => ph (a0, a1) s j (tt 0)) 6) 6 2).2, .int .i64 (spV (seqV (fun j => ph (a0, a1) s j (tt 0)) 6) 6 3).1, .int .i64 (spV (seqV (fun j => ph (a0, a1) s j (tt 0)) 6) 6 3).2, .int .i64 (spV (seqV (fun j => ph (a0, a1) s j (tt 0)) 6) 6 4).1, .int .i64 (spV (seqV (fun j => ph (a0, a1) s j (tt 0)) 6) 6 4).2, .int .i64 (spV (seqV (fun j => ph (a0, a1) s j (tt 0)) 6) 6 5).1, .int .i64 (spV (seqV (fun j => ph (a0, a1) s j (tt 0)) 6) 6 5).2] := L5.below CB l5
              obtain ⟨ga, gb, -, -⟩ := KG.two
              obtain ⟨p0, p1⟩ := tw_at K2 hlt
              obtain ⟨q0, q1⟩ := tw_at K4 hlt
              obtain ⟨t0, t1⟩ := tw_at K5 hlt
              obtain ⟨e0, e1, -, -⟩ := C1.two
              rw [E0] at p0 p1
              rw [E1] at q0 q1
              simp only [] at p0 p1
              have NK := Lib.hid KG
              have N2 := Lib.hid K2
              have N4 := Lib.hid K4
              have N5 := Lib.hid K5
              have kw : Below w.heap.size w wc := LW.trans (CB.mono lw)
              have hxs := kw.size
              generalize spV (seqV (fun j => ph (a0, a1) s j (tt 0)) 6) 6 k = sp at *
              have hk1 : (0 : Int) ≤ (k : Int) := by omega
              have hk2 : (k : Int) < 6 := by omega
              clear KG K2 K4 K5 E0 E1 LG L2 L4 L5 C1
              go_wp2_with fail
              (refine wp_region_all_below (by kernel_rfl) (by kernel_rfl) ?_; (repeat (go_big_quiet_step (exact Calls.regrown_of (Turn_any _ _ _)))); refine wpQuiet_nil ?_)
              intro w10 hb10
              obtain ⟨hc10, hf10⟩ := ifs_of hb10; have hs10 := hb10.size; (try simp at hs10)
              go_wp2
              go_roundw
              case rel =>
                have xg := NK.out
                have x2 := N2.out
                have x4 := N4.out
                have x5 := N5.out
                exact ⟨k + 1, by omega, by go_num, (by repeat (first | (with_reducible assumption) | ((with_reducible apply Blk.new_at); (first | (simp; done) | (simp; omega))) | (with_reducible apply Blk.drew) | (with_reducible refine Blk.alloc ?_ _) | (with_reducible apply blk_two) | ((with_reducible refine blk_far ?_ ?_ _); (· first | (simp; done) | (simp; omega) | omega)) | ((with_reducible apply blk_kept); (· with_reducible assumption)))), (by repeat (first | (with_reducible assumption) | ((with_reducible apply Blk.new_at); (first | (simp; done) | (simp; omega))) | (with_reducible apply Blk.drew) | (with_reducible refine Blk.alloc ?_ _) | (with_reducible apply blk_two) | ((with_reducible refine blk_far ?_ ?_ _); (· first | (simp; done) | (simp; omega) | omega)) | ((with_reducible apply blk_kept); (· with_reducible assumption)))), (by repeat (first | (with_reducible assumption) | ((with_reducible apply Blk.new_at); (first | (simp; done) | (simp; omega))) | (with_reducible apply Blk.drew) | (with_reducible refine Blk.alloc ?_ _) | (with_reducible apply blk_two) | ((with_reducible refine blk_far ?_ ?_ _); (· first | (simp; done) | (simp; omega) | omega)) | ((with_reducible apply blk_kept); (· with_reducible assumption)))), (by repeat (first | (with_reducible assumption) | ((with_reducible apply Blk.new_at); (first | (simp; done) | (simp; omega))) | (with_reducible apply Blk.drew) | (with_reducible refine Blk.alloc ?_ _) | (with_reducible apply blk_two) | ((with_reducible refine blk_far ?_ ?_ _); (· first | (simp; done) | (simp; omega) | omega)) | ((with_reducible apply blk_kept); (· with_reducible assumption)))), (by repeat (first | (with_reducible exact Below.refl _ _) | (with_reducible assumption) | ((with_reducible refine Below.alloc ?_ ?_ _); rotate_left; (· first | (simp; done) | (simp; omega) | omega)) | ((with_reducible refine Below.setCell ?_ ?_ _); rotate_left; (· first | (simp; done) | (simp; omega) | omega)) | (with_reducible apply Below.drew) | ((with_reducible apply below_step); (· with_reducible assumption); rotate_left; (· first | (simp; done) | (simp; omega) | omega))))⟩
              case measure => simp [intOf]; omega
          · obtain rfl : k = 6 := by omega
            go_wp2_with fail
            refine (wires_any _ (hw.below (by repeat (first | (with_reducible exact Below.refl _ _) | (with_reducible assumption) | ((with_reducible refine Below.alloc ?_ ?_ _); rotate_left; (· first | (simp; done) | (simp; omega) | omega)) | ((with_reducible refine Below.setCell ?_ ?_ _); rotate_left; (· first | (simp; done) | (simp; omega) | omega)) | (with_reducible apply Below.drew) | ((with_reducible apply below_step); (· with_reducible assumption); rotate_left; (· first | (simp; done) | (simp; omega) | omega)))))).mono ?_
            rintro e w9 ⟨rfl, hb9⟩
            obtain ⟨hc9, hf9⟩ := ifs_of hb9; have hs9 := hb9.size; (try simp at hs9)
            go_wp2_with fail
            exact bodyPost_ret (by simp [results, Tryd.results3, go_sem, *]; try ((repeat' apply And.intro) <;> rfl)) rfl ⟨rfl, (by repeat (first | (with_reducible exact Below.refl _ _) | (with_reducible assumption) | ((with_reducible refine Below.alloc ?_ ?_ _); rotate_left; (· first | (simp; done) | (simp; omega) | omega)) | ((with_reducible refine Below.setCell ?_ ?_ _); rotate_left; (· first | (simp; done) | (simp; omega) | omega)) | (with_reducible apply Below.drew) | ((with_reducible apply below_step); (· with_reducible assumption); rotate_left; (· first | (simp; done) | (simp; omega) | omega))))⟩
end Go.Proofs.YtjakigncloleaaaDoor
