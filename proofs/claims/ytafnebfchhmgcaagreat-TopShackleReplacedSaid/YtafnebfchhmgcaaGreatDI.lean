/- Bypass and Replaced of the program. -/
import Derived.Test.YtafnebfchhmgcaaGreatDH
import Derived.Test.YtafnebfchhmgcaaGreatQd
import Derived.Test.YtafnebfchhmgcaaGreatQl
namespace Go.Proofs.YtafnebfchhmgcaaGreat
open Go.RowKit Go.Sort Go.Shelf
set_option linter.unusedSimpArgs false
set_option linter.unusedVariables false
attribute [local go_sem] cell_if frozen_if grow_cell
def ArmERes (w : World) (b : Ar) (er : Int) (e : Ending) (w' : World) : Prop := Below w.heap.size w w' ∧ ((er = 0 ∧ ∃ g, e = .returned (.tuple #[.agg #[.slice (some ⟨g, 0, none⟩) b.m.length b.m.length, .int .i64 b.lo, .int .i64 b.hi, .int .i64 b.cur, .int .i64 b.lim], .int .i64 0]) ∧ BlkArm w' g b ∧ w.heap.size ≤ g) ∨ (er ≠ 0 ∧ e = .returned (.tuple #[.agg #[.slice none 0 0, .int .i64 0, .int .i64 0, .int .i64 0, .int .i64 0], .int .i64 er])))
theorem set_set_ {α : Type} (l : List α) (i : Nat) (x z : α) : (l.set i x).set i z = l.set i z := List.set_set ..
theorem set_at {α : Type} {l : List α} {i : Nat} {x z : α} (h : l[i]? = some x) : (l.set i z)[i]? = some z := List.getElem?_set_self (List.getElem?_eq_some_iff.1 h).1
/-- The results of a function that gives an arm in a box, and an error. -/
theorem res_arm {fn : Func} {p q b : Nat} {T : TypeId} {tmps : Array Value} {W : World} {v0 v1 v2 v3 v4 u : Value} (hr : fn.results = #[.cell p 36, .tmp q]) (hp : tmps[p]?.getD undef = .pointer (some ⟨b, 0, none⟩)) (hq : tmps[q]?.getD undef = u) (hk : Blk W b T #[v0, v1, v2, v3, v4]) :
    (results fn tmps).run Tryz.prog W = .ok (.tuple #[.agg #[v0, v1, v2, v3, v4], u]) W := by
  have c0 : W.cell? ⟨b, 0, none⟩ = some v0 := hk.cell 0
  have c1 : W.cell? ⟨b, 1, none⟩ = some v1 := hk.cell 1
  have c2 : W.cell? ⟨b, 2, none⟩ = some v2 := hk.cell 2
  have c3 : W.cell? ⟨b, 3, none⟩ = some v3 := hk.cell 3
  have c4 : W.cell? ⟨b, 4, none⟩ = some v4 := hk.cell 4
  clear hk
  unfold results
  rw [hr]
  simp [go_sem, hp, hq, c0, c1, c2, c3, c4]
set_option maxRecDepth 100000 in
set_option maxHeartbeats 4000000 in
theorem Bypass_any (B : Nat) (A : Option Addr) (n c : Nat) (a : Ar) (nm : ByteArray) (w : World) (hM : MsAt w B A n a.m) (hB : B ≤ w.heap.size) (hF : FitA a) (hnc : n ≤ c) :
    Calls Tryz.prog 33 #[.agg #[.slice A n c, .int .i64 a.lo, .int .i64 a.hi, .int .i64 a.cur, .int .i64 a.lim], .string nm] w (ArmERes w (bypA a nm) (bypE a nm)) := by
  obtain ⟨ra, hra⟩ : ∃ ra, bypA a nm = ra := ⟨_, rfl⟩
  obtain ⟨re, hre⟩ : ∃ re, bypE a nm = re := ⟨_, rfl⟩
  have HRA := Lib.hid hra
  have HRE := Lib.hid hre
  rw [hra, hre]
  clear hra hre
  have hl := (md_at hM).1
  have h17 := hF.len
  have HC := Lib.hid (fun W (hW : Below w.heap.size w W) => CheckArm_any B A n c a W (hM.below (hW.mono hB)) (by have := hW.size; omega) hF hnc)
  have HFi := Lib.hid (fun W (hW : Below w.heap.size w W) => find_any B A n c a nm W (hM.below (hW.mono hB)) (by have := hW.size; omega) (by omega))
  have HOw := Lib.hid (fun W (hW : Below w.heap.size w W) => aown_any B A n c a W (hM.below (hW.mono hB)) (by have := hW.size; omega) (by omega))
  obtain ⟨E1, hE1⟩ : ∃ E1, firstE [armE a, whenE (decide (mdIdx a.m nm < 0)) 10] = E1 := ⟨_, rfl⟩
  have HE1 := Lib.hid hE1
  have HOk : Hid (E1 = 0 → armE a = 0 ∧ 0 ≤ mdIdx a.m nm) := Lib.hid (fun h => by
    rw [h, firstE_cons, firstE_cons] at hE1
    obtain ⟨q1, q2⟩ := or0_zero hE1
    have := of_decide_eq_false (whenE_zero (by decide) (or0_zero q2).1)
    exact ⟨q1, by omega⟩)
  clear hM hF hE1
  go_enter Tryz.func33, Tryz.ntmps33
  go_wp2_with fail
  refine wp_world ?_
  intro W0 hW0
  have hb0 : Below w.heap.size w W0 := by rw [hW0]; exact bl_
  have bA0 : Blk W0 w.heap.size 36 #[.slice A n c, .int .i64 a.lo, .int .i64 a.hi, .int .i64 a.cur, .int .i64 a.lim] := by rw [hW0]; exact bk_
  have bR0 : Blk W0 (w.heap.size + 1) 36 #[.slice none 0 0, .int .i64 0, .int .i64 0, .int .i64 0, .int .i64 0] := by rw [hW0]; exact bk_
  have HC1 := Lib.hid (fun W (hW : Below W0.heap.size W0 W) => HC.out W (hb0.trans (hW.mono hb0.size)))
  have HF1 := Lib.hid (fun W (hW : Below W0.heap.size W0 W) => HFi.out W (hb0.trans (hW.mono hb0.size)))
  have cA0 := bA0.cell
  have lA0 := bA0.lt
  clear hW0
  as_aux_lemma =>
    (refine wp_region_calm [] [0, 1, 2, 3, 4, 5, 6] 3 (by kernel_rfl) rfl (by kernel_rfl) (by kernel_rfl) (by kernel_rfl) ?_; simp only [pickB, List.filterMap_cons, List.filterMap_nil, List.getElem?_toArray, List.getElem?_cons_zero, List.getElem?_cons_succ]; (repeat (first | ((first | (with_reducible refine quietL_plain rfl (fun K hK => ?_)) | (with_reducible refine quietL_want (by with_unfolding_all rfl) (fun K hK => ?_))); (apply Exists.intro; refine ⟨fun wx hx => ?_, ?_⟩; (· (have hcx := ifs_ex hx); simp [go_sem, *, ↓IntWalk.iteOmega] <;> (first | rfl | exact ⟨rfl, rfl⟩ | (first | (with_reducible exact calls_B (HC1.out _ (Ex.low hx))) | (with_reducible exact calls_B (HF1.out _ (Ex.low hx))) | (with_reducible exact calls_B (calls_below (awhen_any _ _ _)))))); (simp only [Act.put, List.setIfInBounds_toArray, List.set_cons_zero, List.set_cons_succ]; refine hK _ ?_; clear hK K))) | ((with_reducible refine quietL_skip (by with_unfolding_all rfl) ?_); simp only [Act.put, List.setIfInBounds_toArray, List.set_cons_zero, List.set_cons_succ]))); refine quietL_nil ?_)
    as_aux_lemma =>
      (refine anyB_one (i := 7) (by kernel_rfl) rfl rfl ?_; intro w2 hb2 K hK; have hs2 := hb2.size; (try simp at hs2); go_wp2; refine ⟨xs_, ?_⟩)
      (refine anyB_one (i := 8) (by kernel_rfl) rfl rfl ?_; intro w3 hb3 K hK; obtain ⟨hc3, hf3⟩ := ifs_of hb3; have hs3 := hb3.size; (try simp at hs3); go_wp2_with fail; refine (afirst_any (w2.heap.size + 1) _ 2 2 [armE a, whenE (decide (mdIdx a.m nm < 0)) 10] _ ((by simpa using Reads.new (size := 1) w2 (([armE a, whenE (decide (mdIdx a.m nm < 0)) 10]).map (.int .i64)).toArray 31 2 rfl : Reads (w2.alloc (.cells (([armE a, whenE (decide (mdIdx a.m nm < 0)) 10]).map (.int .i64)).toArray 31)) (w2.heap.size + 1) 1 (some ⟨w2.heap.size, 0, none⟩) 2 (([armE a, whenE (decide (mdIdx a.m nm < 0)) 10]).map (.int .i64))).below (hb3.mono (by simp))) (by unfold maxLen; decide)).mono ?_; rintro e w3' ⟨rfl, rfl⟩; go_wp2; refine ⟨xs_, ?_⟩)
      as_aux_lemma =>
        (refine anyB_one (i := 9) (by kernel_rfl) rfl rfl ?_; intro w4 hb4 K hK; have hs4 := hb4.size; (try simp at hs4); go_wp2; refine ⟨xs_, ?_⟩)
        (refine anyB_end (by kernel_rfl) ?_; intro w5 hb5; have hs5 := hb5.size; (try simp at hs5); simp only [Calm])
        as_aux_lemma =>
          have hb05 : Below W0.heap.size W0 w5 := bl_
          have bA5 := bA0.kept hb05
          have bR5 := bR0.kept hb05
          have HB5 := Lib.hid (hb0.trans (hb05.mono hb0.size))
          have hs5 := HB5.out.size
          have lR5 := bR5.lt
          clear cA0 lA0 bA0 bR0 hb05 hb0 HC1 HF1 HC HFi hb2 hb3 hb4 hb5 hc3 hf3
          rw [HE1.out]
          by_cases h1 : E1 = 0
          · subst h1
            have h1 : (0 : Int) = 0 := rfl
            obtain ⟨hE, hidx⟩ := HOk.out h1
            obtain ⟨i, hi, ei, _⟩ := idxP_some (p := fun x : Md => x.n.toList == nm.toList) hidx
            rw [Nat.zero_add] at ei
            have eI : mdIdx a.m nm = (i : Int) := ei
            have hat : a.m[i]? = some a.m[i] := List.getElem?_eq_getElem hi
            have HAt := Lib.hid hat
            have HEI := Lib.hid eI
            clear ei hidx hE HOk hat eI
            generalize a.m[i] = x at *
            as_aux_lemma =>
              have cA := bA5.cell
              have lA := bA5.lt
              go_wp2_with fail
              refine (HOw.out _ HB5.out).mono ?_
              rintro e w6 ⟨g, rfl, hg, hgl, hb6⟩
              rw [hl]
              have hs6 := hb6.size
              have bA6 := bA5.kept hb6
              have bR6 := bR5.kept hb6
              have HB6 := Lib.hid (HB5.out.trans (hb6.mono HB5.out.size))
              clear cA lA bA5 bR5 hb6 HOw HB5
              as_aux_lemma =>
                go_upto_region 5 with fail
                refine wp_world ?_
                intro W7 hW7
                have hb7 : Below w6.heap.size w6 W7 := by rw [hW7]; exact bl_
                have b7 : Blk W7 w6.heap.size 36 #[.slice (some ⟨g, 0, none⟩) n n, .int .i64 a.lo, .int .i64 a.hi, .int .i64 a.cur, .int .i64 a.lim] := by rw [hW7]; exact bk_
                clear hW7
                have bA7 := bA6.kept hb7
                have bR7 := bR6.kept hb7
                have bG7 := hg.kept hb7
                have HB7 := Lib.hid (HB6.out.trans (hb7.mono HB6.out.size))
                have hs7 := hb7.size
                have lg6 := hg.lt
                clear hb7 bA6 bR6 HB6 hg
                have HF7 := Lib.hid (fun W (hW : Below W7.heap.size W7 W) => find_any (g + 1) (some ⟨g, 0, none⟩) n n a nm W ((BlkArm.at (b := a) (bG7.kept hW) hl)) (bG7.kept hW).lt (by omega))
                rw [HEI.out] at HF7
                have c7 := b7.cell
                have l7 := b7.lt
                have hin : (i : Int) < n := by omega
                (refine wp_region_calm [] [0, 1, 2, 3, 4, 5] 1 (by kernel_rfl) rfl (by kernel_rfl) (by kernel_rfl) (by kernel_rfl) ?_; simp only [pickB, List.filterMap_cons, List.filterMap_nil, List.getElem?_toArray, List.getElem?_cons_zero, List.getElem?_cons_succ]; (repeat (first | ((first | (with_reducible refine quietL_plain rfl (fun K hK => ?_)) | (with_reducible refine quietL_want (by with_unfolding_all rfl) (fun K hK => ?_))); (apply Exists.intro; refine ⟨fun wx hx => ?_, ?_⟩; (· (have hcx := ifs_ex hx); simp [go_sem, *, ↓IntWalk.iteOmega] <;> (first | rfl | exact ⟨rfl, rfl⟩ | (with_reducible exact calls_B (HF7.out _ (Ex.low hx))))); (simp only [Act.put, List.setIfInBounds_toArray, List.set_cons_zero, List.set_cons_succ]; refine hK _ ?_; clear hK K))) | ((with_reducible refine quietL_skip (by with_unfolding_all rfl) ?_); simp only [Act.put, List.setIfInBounds_toArray, List.set_cons_zero, List.set_cons_succ]))); refine quietL_nil ?_)
                (refine anyB_one (i := 6) (by kernel_rfl) rfl rfl ?_; intro w8 hb8 K hK; have hs8 := hb8.size; (try simp at hs8); go_wp2; refine ⟨xs_, ?_⟩)
                (refine anyB_end (by kernel_rfl) ?_; intro w9 hb9; have hs9 := hb9.size; (try simp at hs9); simp only [Calm])
                have hb79 : Below W7.heap.size W7 w9 := bl_
                have bA9 := bA7.kept hb79
                have bR9 := bR7.kept hb79
                have b9 := b7.kept hb79
                have bG9 := bG7.kept hb79
                have HB9 := Lib.hid (HB7.out.trans (hb79.mono HB7.out.size))
                have hs9 := hb79.size
                clear hb8 hb9 hb79 c7 l7 bA7 bR7 b7 bG7 HF7
                have y1 := (bG9.cell _).trans (mds_get HAt.out 1 (by decide))
                have y2 := (bG9.cell _).trans (mds_get HAt.out 2 (by decide))
                have y3 := (bG9.cell _).trans (mds_get HAt.out 3 (by decide))
                have lG := bG9.lt
                have fG := bG9.frozen
                obtain ⟨xn, xq, xo, xb⟩ := x
                replace y1 : w9.cell? ⟨g, i * 4 + 1, none⟩ = some (.int .i64 xq) := y1
                replace y2 : w9.cell? ⟨g, i * 4 + 2, none⟩ = some (.bool xo) := y2
                replace y3 : w9.cell? ⟨g, i * 4 + 3, none⟩ = some (.bool xb) := y3
                as_aux_lemma =>
                  cases xb with
                  | true =>
                    have HEr : Hid (bypE a nm = 9) := Lib.hid (by unfold bypE; rw [HE1.out, HEI.out, Int.toNat_natCast, HAt.out]; rfl)
                    have k2 := put5_blk (v0 := .slice none 0 0) (v1 := .int .i64 0) (v2 := .int .i64 0) (v3 := .int .i64 0) (v4 := .int .i64 0) bR9
                    have k4 := put5_low (b := w.heap.size + 1) (v0 := .slice none 0 0) (v1 := .int .i64 0) (v2 := .int .i64 0) (v3 := .int .i64 0) (v4 := .int .i64 0) HB9.out (by omega)
                    have fR := (bR9).frozen
                    have cR := (bR9).cell
                    have lR := (bR9).lt
                    have K4 := Lib.hid k4
                    have K2 := Lib.hid k2
                    clear k2 k4
                    go_wp2_with fail
                    refine bodyPost_ret (v := .tuple #[.agg #[.slice none 0 0, .int .i64 0, .int .i64 0, .int .i64 0, .int .i64 0], .int .i64 9]) (res_arm Tryz.results33 rfl rfl K2.out) rfl ⟨K4.out, .inr ⟨by rw [← HRE.out, HEr.out]; decide, by rw [← HRE.out, HEr.out]⟩⟩
                  | false =>
                    have HEr : Hid (bypE a nm = 0) := Lib.hid (by unfold bypE; rw [HE1.out, HEI.out, Int.toNat_natCast, HAt.out]; rfl)
                    have HAr : Hid (bypA a nm = ⟨a.m.set i ⟨xn, xq, false, true⟩, a.lo, a.hi, a.cur, a.lim⟩) := Lib.hid (by unfold bypA; rw [HEI.out, Int.toNat_natCast, HAt.out]; rfl)
                    have k1 := bG9.set_ (i * 4 + 2) (.bool false)
                    rw [mds_set (x' := ⟨xn, xq, false, false⟩) HAt.out (by decide) rfl] at k1
                    have k2 := k1.set_ (i * 4 + 3) (.bool true)
                    rw [mds_set (x' := ⟨xn, xq, false, true⟩) (set_at HAt.out) (by decide) rfl, set_set_] at k2
                    have KG := Lib.hid k2
                    clear k1 k2
                    go_upto_region 9 with fail
                    refine wp_world ?_
                    intro V hV
                    have kG : Blk V g 115 (mds (a.m.set i ⟨xn, xq, false, true⟩)).toArray := by rw [hV]; exact KG.out
                    have kR : Blk V (w.heap.size + 1) 36 #[.slice none 0 0, .int .i64 0, .int .i64 0, .int .i64 0, .int .i64 0] := by
                      rw [hV]
                      exact (bR9.far (p := ⟨g, i * 4 + 2, none⟩) (show w.heap.size + 1 ≠ g by omega) _).far (p := ⟨g, i * 4 + 3, none⟩) (show w.heap.size + 1 ≠ g by omega) _
                    have k9 : Blk V w6.heap.size 36 #[.slice (some ⟨g, 0, none⟩) n n, .int .i64 a.lo, .int .i64 a.hi, .int .i64 a.cur, .int .i64 a.lim] := by
                      rw [hV]
                      exact (b9.far (p := ⟨g, i * 4 + 2, none⟩) (show w6.heap.size ≠ g by omega) _).far (p := ⟨g, i * 4 + 3, none⟩) (show w6.heap.size ≠ g by omega) _
                    have kL : Below w.heap.size w V := by
                      rw [hV]
                      exact (HB9.out.setCell (p := ⟨g, i * 4 + 2, none⟩) (show w.heap.size ≤ g by omega) _).setCell (p := ⟨g, i * 4 + 3, none⟩) (show w.heap.size ≤ g by omega) _
                    clear hV KG bR9 b9 HB9 bG9 y1 y2 y3 fG lG
                    have c9 := k9.cell
                    have l9 := k9.lt
                    have fR := kR.frozen
                    have cR := kR.cell
                    have lR := kR.lt
                    have k2 := put5_blk (v0 := .slice (some ⟨g, 0, none⟩) n n) (v1 := .int .i64 a.lo) (v2 := .int .i64 a.hi) (v3 := .int .i64 a.cur) (v4 := .int .i64 a.lim) kR
                    have k4 := put5_low (b := w.heap.size + 1) (v0 := .slice (some ⟨g, 0, none⟩) n n) (v1 := .int .i64 a.lo) (v2 := .int .i64 a.hi) (v3 := .int .i64 a.cur) (v4 := .int .i64 a.lim) kL (by omega)
                    have k3 := put5_far (b := w.heap.size + 1) (v0 := .slice (some ⟨g, 0, none⟩) n n) (v1 := .int .i64 a.lo) (v2 := .int .i64 a.hi) (v3 := .int .i64 a.cur) (v4 := .int .i64 a.lim) kG (by omega)
                    have K4 := Lib.hid k4
                    have K2 := Lib.hid k2
                    have K3 := Lib.hid k3
                    have hnl : (a.m.set i (⟨xn, xq, false, true⟩)).length = n := by rw [List.length_set]; exact hl
                    clear k2 k4 k3 kG kL kR k9
                    go_wp2_with fail
                    refine bodyPost_ret (v := .tuple #[.agg #[.slice (some ⟨g, 0, none⟩) n n, .int .i64 a.lo, .int .i64 a.hi, .int .i64 a.cur, .int .i64 a.lim], .int .i64 0]) (res_arm Tryz.results33 rfl rfl K2.out) rfl ⟨K4.out, .inl ⟨HRE.out.symm.trans HEr.out, g, ?_, ?_, by omega⟩⟩
                    · rw [← HRA.out, HAr.out]
                      dsimp only
                      rw [hnl]
                    · rw [← HRA.out, HAr.out]
                      exact K3.out
          · skip
            as_aux_lemma =>
              have hne : (E1 != 0) = true := by simpa using h1
              have HEr : Hid (bypE a nm = E1) := Lib.hid (by unfold bypE or0; rw [HE1.out, if_neg h1])
              have k2 := put5_blk (v0 := .slice none 0 0) (v1 := .int .i64 0) (v2 := .int .i64 0) (v3 := .int .i64 0) (v4 := .int .i64 0) bR5
              have k4 := put5_low (b := w.heap.size + 1) (v0 := .slice none 0 0) (v1 := .int .i64 0) (v2 := .int .i64 0) (v3 := .int .i64 0) (v4 := .int .i64 0) HB5.out (by omega)
              have fR := (bR5).frozen
              have cR := (bR5).cell
              have lR := (bR5).lt
              have K4 := Lib.hid k4
              have K2 := Lib.hid k2
              clear k2 k4
              go_wp2_with fail
              refine bodyPost_ret (v := .tuple #[.agg #[.slice none 0 0, .int .i64 0, .int .i64 0, .int .i64 0, .int .i64 0], .int .i64 E1]) (res_arm Tryz.results33 rfl rfl K2.out) rfl ⟨K4.out, .inr ⟨by rw [← HRE.out, HEr.out]; exact h1, by rw [← HRE.out, HEr.out]⟩⟩
set_option maxRecDepth 100000 in
set_option maxHeartbeats 4000000 in
theorem Replaced_any (B : Nat) (A : Option Addr) (n c : Nat) (a : Ar) (nm : ByteArray) (cg : Int) (w : World) (hM : MsAt w B A n a.m) (hB : B ≤ w.heap.size) (hF : FitA a) (hnc : n ≤ c) :
    Calls Tryz.prog 45 #[.agg #[.slice A n c, .int .i64 a.lo, .int .i64 a.hi, .int .i64 a.cur, .int .i64 a.lim], .string nm, .int .i64 cg] w (ArmERes w (repA a nm cg) (repE a nm cg)) := by
  obtain ⟨ra, hra⟩ : ∃ ra, repA a nm cg = ra := ⟨_, rfl⟩
  obtain ⟨re, hre⟩ : ∃ re, repE a nm cg = re := ⟨_, rfl⟩
  have HRA := Lib.hid hra
  have HRE := Lib.hid hre
  rw [hra, hre]
  clear hra hre
  have hl := (md_at hM).1
  have h17 := hF.len
  have HC := Lib.hid (fun W (hW : Below w.heap.size w W) => CheckArm_any B A n c a W (hM.below (hW.mono hB)) (by have := hW.size; omega) hF hnc)
  have HFi := Lib.hid (fun W (hW : Below w.heap.size w W) => find_any B A n c a nm W (hM.below (hW.mono hB)) (by have := hW.size; omega) (by omega))
  have HOw := Lib.hid (fun W (hW : Below w.heap.size w W) => aown_any B A n c a W (hM.below (hW.mono hB)) (by have := hW.size; omega) (by omega))
  obtain ⟨E1, hE1⟩ : ∃ E1, firstE [armE a, whenE (decide (mdIdx a.m nm < 0)) 10] = E1 := ⟨_, rfl⟩
  have HE1 := Lib.hid hE1
  have HOk : Hid (E1 = 0 → armE a = 0 ∧ 0 ≤ mdIdx a.m nm) := Lib.hid (fun h => by
    rw [h, firstE_cons, firstE_cons] at hE1
    obtain ⟨q1, q2⟩ := or0_zero hE1
    have := of_decide_eq_false (whenE_zero (by decide) (or0_zero q2).1)
    exact ⟨q1, by omega⟩)
  clear hM hF hE1
  go_enter Tryz.func45, Tryz.ntmps45
  go_wp2_with fail
  refine wp_world ?_
  intro W0 hW0
  have hb0 : Below w.heap.size w W0 := by rw [hW0]; exact bl_
  have bA0 : Blk W0 w.heap.size 36 #[.slice A n c, .int .i64 a.lo, .int .i64 a.hi, .int .i64 a.cur, .int .i64 a.lim] := by rw [hW0]; exact bk_
  have bR0 : Blk W0 (w.heap.size + 1) 36 #[.slice none 0 0, .int .i64 0, .int .i64 0, .int .i64 0, .int .i64 0] := by rw [hW0]; exact bk_
  have HC1 := Lib.hid (fun W (hW : Below W0.heap.size W0 W) => HC.out W (hb0.trans (hW.mono hb0.size)))
  have HF1 := Lib.hid (fun W (hW : Below W0.heap.size W0 W) => HFi.out W (hb0.trans (hW.mono hb0.size)))
  have cA0 := bA0.cell
  have lA0 := bA0.lt
  clear hW0
  as_aux_lemma =>
    (refine wp_region_calm [] [0, 1, 2, 3, 4, 5, 6] 3 (by kernel_rfl) rfl (by kernel_rfl) (by kernel_rfl) (by kernel_rfl) ?_; simp only [pickB, List.filterMap_cons, List.filterMap_nil, List.getElem?_toArray, List.getElem?_cons_zero, List.getElem?_cons_succ]; (repeat (first | ((first | (with_reducible refine quietL_plain rfl (fun K hK => ?_)) | (with_reducible refine quietL_want (by with_unfolding_all rfl) (fun K hK => ?_))); (apply Exists.intro; refine ⟨fun wx hx => ?_, ?_⟩; (· (have hcx := ifs_ex hx); simp [go_sem, *, ↓IntWalk.iteOmega] <;> (first | rfl | exact ⟨rfl, rfl⟩ | (first | (with_reducible exact calls_B (HC1.out _ (Ex.low hx))) | (with_reducible exact calls_B (HF1.out _ (Ex.low hx))) | (with_reducible exact calls_B (calls_below (awhen_any _ _ _)))))); (simp only [Act.put, List.setIfInBounds_toArray, List.set_cons_zero, List.set_cons_succ]; refine hK _ ?_; clear hK K))) | ((with_reducible refine quietL_skip (by with_unfolding_all rfl) ?_); simp only [Act.put, List.setIfInBounds_toArray, List.set_cons_zero, List.set_cons_succ]))); refine quietL_nil ?_)
    as_aux_lemma =>
      (refine anyB_one (i := 7) (by kernel_rfl) rfl rfl ?_; intro w2 hb2 K hK; have hs2 := hb2.size; (try simp at hs2); go_wp2; refine ⟨xs_, ?_⟩)
      (refine anyB_one (i := 8) (by kernel_rfl) rfl rfl ?_; intro w3 hb3 K hK; obtain ⟨hc3, hf3⟩ := ifs_of hb3; have hs3 := hb3.size; (try simp at hs3); go_wp2_with fail; refine (afirst_any (w2.heap.size + 1) _ 2 2 [armE a, whenE (decide (mdIdx a.m nm < 0)) 10] _ ((by simpa using Reads.new (size := 1) w2 (([armE a, whenE (decide (mdIdx a.m nm < 0)) 10]).map (.int .i64)).toArray 31 2 rfl : Reads (w2.alloc (.cells (([armE a, whenE (decide (mdIdx a.m nm < 0)) 10]).map (.int .i64)).toArray 31)) (w2.heap.size + 1) 1 (some ⟨w2.heap.size, 0, none⟩) 2 (([armE a, whenE (decide (mdIdx a.m nm < 0)) 10]).map (.int .i64))).below (hb3.mono (by simp))) (by unfold maxLen; decide)).mono ?_; rintro e w3' ⟨rfl, rfl⟩; go_wp2; refine ⟨xs_, ?_⟩)
      as_aux_lemma =>
        (refine anyB_one (i := 9) (by kernel_rfl) rfl rfl ?_; intro w4 hb4 K hK; have hs4 := hb4.size; (try simp at hs4); go_wp2; refine ⟨xs_, ?_⟩)
        (refine anyB_end (by kernel_rfl) ?_; intro w5 hb5; have hs5 := hb5.size; (try simp at hs5); simp only [Calm])
        as_aux_lemma =>
          have hb05 : Below W0.heap.size W0 w5 := bl_
          have bA5 := bA0.kept hb05
          have bR5 := bR0.kept hb05
          have HB5 := Lib.hid (hb0.trans (hb05.mono hb0.size))
          have hs5 := HB5.out.size
          have lR5 := bR5.lt
          clear cA0 lA0 bA0 bR0 hb05 hb0 HC1 HF1 HC HFi hb2 hb3 hb4 hb5 hc3 hf3
          rw [HE1.out]
          by_cases h1 : E1 = 0
          · subst h1
            have h1 : (0 : Int) = 0 := rfl
            obtain ⟨hE, hidx⟩ := HOk.out h1
            obtain ⟨i, hi, ei, _⟩ := idxP_some (p := fun x : Md => x.n.toList == nm.toList) hidx
            rw [Nat.zero_add] at ei
            have eI : mdIdx a.m nm = (i : Int) := ei
            have hat : a.m[i]? = some a.m[i] := List.getElem?_eq_getElem hi
            have HAt := Lib.hid hat
            have HEI := Lib.hid eI
            clear ei hidx hE HOk hat eI
            generalize a.m[i] = x at *
            as_aux_lemma =>
              have cA := bA5.cell
              have lA := bA5.lt
              go_wp2_with fail
              refine (HOw.out _ HB5.out).mono ?_
              rintro e w6 ⟨g, rfl, hg, hgl, hb6⟩
              rw [hl]
              have hs6 := hb6.size
              have bA6 := bA5.kept hb6
              have bR6 := bR5.kept hb6
              have HB6 := Lib.hid (HB5.out.trans (hb6.mono HB5.out.size))
              clear cA lA bA5 bR5 hb6 HOw HB5
              as_aux_lemma =>
                go_upto_region 5 with fail
                refine wp_world ?_
                intro W7 hW7
                have hb7 : Below w6.heap.size w6 W7 := by rw [hW7]; exact bl_
                have b7 : Blk W7 w6.heap.size 36 #[.slice (some ⟨g, 0, none⟩) n n, .int .i64 a.lo, .int .i64 a.hi, .int .i64 a.cur, .int .i64 a.lim] := by rw [hW7]; exact bk_
                clear hW7
                have bA7 := bA6.kept hb7
                have bR7 := bR6.kept hb7
                have bG7 := hg.kept hb7
                have HB7 := Lib.hid (HB6.out.trans (hb7.mono HB6.out.size))
                have hs7 := hb7.size
                have lg6 := hg.lt
                clear hb7 bA6 bR6 HB6 hg
                have HF7 := Lib.hid (fun W (hW : Below W7.heap.size W7 W) => find_any (g + 1) (some ⟨g, 0, none⟩) n n a nm W ((BlkArm.at (b := a) (bG7.kept hW) hl)) (bG7.kept hW).lt (by omega))
                rw [HEI.out] at HF7
                have c7 := b7.cell
                have l7 := b7.lt
                have hin : (i : Int) < n := by omega
                (refine wp_region_calm [] [0, 1, 2, 3, 4, 5] 1 (by kernel_rfl) rfl (by kernel_rfl) (by kernel_rfl) (by kernel_rfl) ?_; simp only [pickB, List.filterMap_cons, List.filterMap_nil, List.getElem?_toArray, List.getElem?_cons_zero, List.getElem?_cons_succ]; (repeat (first | ((first | (with_reducible refine quietL_plain rfl (fun K hK => ?_)) | (with_reducible refine quietL_want (by with_unfolding_all rfl) (fun K hK => ?_))); (apply Exists.intro; refine ⟨fun wx hx => ?_, ?_⟩; (· (have hcx := ifs_ex hx); simp [go_sem, *, ↓IntWalk.iteOmega] <;> (first | rfl | exact ⟨rfl, rfl⟩ | (with_reducible exact calls_B (HF7.out _ (Ex.low hx))))); (simp only [Act.put, List.setIfInBounds_toArray, List.set_cons_zero, List.set_cons_succ]; refine hK _ ?_; clear hK K))) | ((with_reducible refine quietL_skip (by with_unfolding_all rfl) ?_); simp only [Act.put, List.setIfInBounds_toArray, List.set_cons_zero, List.set_cons_succ]))); refine quietL_nil ?_)
                (refine anyB_one (i := 6) (by kernel_rfl) rfl rfl ?_; intro w8 hb8 K hK; have hs8 := hb8.size; (try simp at hs8); go_wp2; refine ⟨xs_, ?_⟩)
                (refine anyB_end (by kernel_rfl) ?_; intro w9 hb9; have hs9 := hb9.size; (try simp at hs9); simp only [Calm])
                have hb79 : Below W7.heap.size W7 w9 := bl_
                have bA9 := bA7.kept hb79
                have bR9 := bR7.kept hb79
                have b9 := b7.kept hb79
                have bG9 := bG7.kept hb79
                have HB9 := Lib.hid (HB7.out.trans (hb79.mono HB7.out.size))
                have hs9 := hb79.size
                clear hb8 hb9 hb79 c7 l7 bA7 bR7 b7 bG7 HF7
                have y1 := (bG9.cell _).trans (mds_get HAt.out 1 (by decide))
                have y2 := (bG9.cell _).trans (mds_get HAt.out 2 (by decide))
                have y3 := (bG9.cell _).trans (mds_get HAt.out 3 (by decide))
                have lG := bG9.lt
                have fG := bG9.frozen
                obtain ⟨xn, xq, xo, xb⟩ := x
                replace y1 : w9.cell? ⟨g, i * 4 + 1, none⟩ = some (.int .i64 xq) := y1
                replace y2 : w9.cell? ⟨g, i * 4 + 2, none⟩ = some (.bool xo) := y2
                replace y3 : w9.cell? ⟨g, i * 4 + 3, none⟩ = some (.bool xb) := y3
                as_aux_lemma =>
                  obtain ⟨E2, hE2⟩ : ∃ E2, firstE [whenE (!xb) 22, ckR cg 0 16384, whenE (!inB a.lo a.hi cg) 30] = E2 := ⟨_, rfl⟩
                  have HEr : Hid (repE a nm cg = E2) := Lib.hid (by unfold repE; rw [HE1.out, HEI.out, Int.toNat_natCast, HAt.out]; exact hE2)
                  have HE2 := Lib.hid hE2
                  have HY1 := Lib.hid y1
                  have HY3 := Lib.hid y3
                  have cA := bA9.cell
                  have lA := bA9.lt
                  clear hE2
                  go_wp2_with fail
                  (refine wp_region_calm [] [0, 1, 2, 3, 4, 5, 6, 7, 8, 9, 10, 11, 12, 13] 3 (by kernel_rfl) rfl (by kernel_rfl) (by kernel_rfl) (by kernel_rfl) ?_; simp only [pickB, List.filterMap_cons, List.filterMap_nil, List.getElem?_toArray, List.getElem?_cons_zero, List.getElem?_cons_succ]; (repeat (first | ((first | (with_reducible refine quietL_plain rfl (fun K hK => ?_)) | (with_reducible refine quietL_want (by with_unfolding_all rfl) (fun K hK => ?_))); (apply Exists.intro; refine ⟨fun wx hx => ?_, ?_⟩; (· (have hcx := ifs_ex hx); simp [go_sem, *, ↓IntWalk.iteOmega] <;> (first | rfl | exact ⟨rfl, rfl⟩ | (first | (with_reducible exact calls_B (calls_below (awhen_any _ _ _))) | (with_reducible exact calls_B (calls_below (awithin_any _ _ _ _))) | (with_reducible exact calls_B (holds_any _ _ _ _))))); (simp only [Act.put, List.setIfInBounds_toArray, List.set_cons_zero, List.set_cons_succ]; refine hK _ ?_; clear hK K))) | ((with_reducible refine quietL_skip (by with_unfolding_all rfl) ?_); simp only [Act.put, List.setIfInBounds_toArray, List.set_cons_zero, List.set_cons_succ]))); refine quietL_nil ?_)
                  (refine anyB_one (i := 14) (by kernel_rfl) rfl rfl ?_; intro w10 hb10 K hK; have hs10 := hb10.size; (try simp at hs10); go_wp2; refine ⟨xs_, ?_⟩)
                  (refine anyB_one (i := 15) (by kernel_rfl) rfl rfl ?_; intro w11 hb11 K hK; obtain ⟨hc11, hf11⟩ := ifs_of hb11; have hs11 := hb11.size; (try simp at hs11); go_wp2_with fail; refine (afirst_any (w10.heap.size + 1) _ 3 3 [whenE (!xb) 22, ckR cg 0 16384, whenE (!inB a.lo a.hi cg) 30] _ ((by simpa using Reads.new (size := 1) w10 (([whenE (!xb) 22, ckR cg 0 16384, whenE (!inB a.lo a.hi cg) 30]).map (.int .i64)).toArray 31 3 rfl : Reads (w10.alloc (.cells (([whenE (!xb) 22, ckR cg 0 16384, whenE (!inB a.lo a.hi cg) 30]).map (.int .i64)).toArray 31)) (w10.heap.size + 1) 1 (some ⟨w10.heap.size, 0, none⟩) 3 (([whenE (!xb) 22, ckR cg 0 16384, whenE (!inB a.lo a.hi cg) 30]).map (.int .i64))).below (hb11.mono (by simp))) (by unfold maxLen; decide)).mono ?_; rintro e w11' ⟨rfl, rfl⟩; go_wp2; refine ⟨xs_, ?_⟩)
                  (refine anyB_one (i := 16) (by kernel_rfl) rfl rfl ?_; intro w12 hb12 K hK; have hs12 := hb12.size; (try simp at hs12); go_wp2; refine ⟨xs_, ?_⟩)
                  (refine anyB_end (by kernel_rfl) ?_; intro w13 hb13; have hs13 := hb13.size; (try simp at hs13); simp only [Calm])
                  have hb93 : Below w9.heap.size w9 w13 := bl_
                  have bR13 := bR9.kept hb93
                  have b13 := b9.kept hb93
                  have bG13 := bG9.kept hb93
                  have HB13 := Lib.hid (HB9.out.trans (hb93.mono HB9.out.size))
                  have z1 := (hb93.cell (p := ⟨g, i * 4 + 1, none⟩) lG).trans HY1.out
                  have z3 := (hb93.cell (p := ⟨g, i * 4 + 3, none⟩) lG).trans HY3.out
                  clear y1 y2 y3 HY1 HY3
                  have hs93 := hb93.size
                  clear hb10 hb11 hb12 hb13 hb93 cA lA bA9 bR9 b9 bG9 HB9 fG lG
                  rw [HE2.out]
                  have hs13 := HB13.out.size
                  by_cases h2 : E2 = 0
                  · subst h2
                    have hxb : xb = true := by
                      have := HE2.out
                      rw [firstE_cons] at this
                      simpa using whenE_zero (by decide) (or0_zero this).1
                    subst hxb
                    have lG := bG13.lt
                    have fG := bG13.frozen
                    have HAr : Hid (repA a nm cg = ⟨a.m.set i ⟨xn, cg, xo, false⟩, a.lo, a.hi, a.cur, a.lim⟩) := Lib.hid (by unfold repA; rw [HEI.out, Int.toNat_natCast, HAt.out]; rfl)
                    have k1 := bG13.set_ (i * 4 + 1) (.int .i64 cg)
                    rw [mds_set (x' := ⟨xn, cg, xo, true⟩) HAt.out (by decide) rfl] at k1
                    have k2 := k1.set_ (i * 4 + 3) (.bool false)
                    rw [mds_set (x' := ⟨xn, cg, xo, false⟩) (set_at HAt.out) (by decide) rfl, set_set_] at k2
                    have KG := Lib.hid k2
                    clear k1 k2
                    go_upto_region 10 with fail
                    refine wp_world ?_
                    intro V hV
                    have kG : Blk V g 115 (mds (a.m.set i ⟨xn, cg, xo, false⟩)).toArray := by rw [hV]; exact KG.out
                    have kR : Blk V (w.heap.size + 1) 36 #[.slice none 0 0, .int .i64 0, .int .i64 0, .int .i64 0, .int .i64 0] := by
                      rw [hV]
                      exact (bR13.far (p := ⟨g, i * 4 + 1, none⟩) (show w.heap.size + 1 ≠ g by omega) _).far (p := ⟨g, i * 4 + 3, none⟩) (show w.heap.size + 1 ≠ g by omega) _
                    have k9 : Blk V w6.heap.size 36 #[.slice (some ⟨g, 0, none⟩) n n, .int .i64 a.lo, .int .i64 a.hi, .int .i64 a.cur, .int .i64 a.lim] := by
                      rw [hV]
                      exact (b13.far (p := ⟨g, i * 4 + 1, none⟩) (show w6.heap.size ≠ g by omega) _).far (p := ⟨g, i * 4 + 3, none⟩) (show w6.heap.size ≠ g by omega) _
                    have kL : Below w.heap.size w V := by
                      rw [hV]
                      exact (HB13.out.setCell (p := ⟨g, i * 4 + 1, none⟩) (show w.heap.size ≤ g by omega) _).setCell (p := ⟨g, i * 4 + 3, none⟩) (show w.heap.size ≤ g by omega) _
                    clear hV KG bR13 b13 HB13 bG13 fG lG
                    have c9 := k9.cell
                    have l9 := k9.lt
                    have fR := kR.frozen
                    have cR := kR.cell
                    have lR := kR.lt
                    have k2 := put5_blk (v0 := .slice (some ⟨g, 0, none⟩) n n) (v1 := .int .i64 a.lo) (v2 := .int .i64 a.hi) (v3 := .int .i64 a.cur) (v4 := .int .i64 a.lim) kR
                    have k4 := put5_low (b := w.heap.size + 1) (v0 := .slice (some ⟨g, 0, none⟩) n n) (v1 := .int .i64 a.lo) (v2 := .int .i64 a.hi) (v3 := .int .i64 a.cur) (v4 := .int .i64 a.lim) kL (by omega)
                    have k3 := put5_far (b := w.heap.size + 1) (v0 := .slice (some ⟨g, 0, none⟩) n n) (v1 := .int .i64 a.lo) (v2 := .int .i64 a.hi) (v3 := .int .i64 a.cur) (v4 := .int .i64 a.lim) kG (by omega)
                    have K4 := Lib.hid k4
                    have K2 := Lib.hid k2
                    have K3 := Lib.hid k3
                    have hnl : (a.m.set i (⟨xn, cg, xo, false⟩)).length = n := by rw [List.length_set]; exact hl
                    clear k2 k4 k3 kG kL kR k9
                    go_wp2_with fail
                    refine bodyPost_ret (v := .tuple #[.agg #[.slice (some ⟨g, 0, none⟩) n n, .int .i64 a.lo, .int .i64 a.hi, .int .i64 a.cur, .int .i64 a.lim], .int .i64 0]) (res_arm Tryz.results45 rfl rfl K2.out) rfl ⟨K4.out, .inl ⟨HRE.out.symm.trans HEr.out, g, ?_, ?_, by omega⟩⟩
                    · rw [← HRA.out, HAr.out]
                      dsimp only
                      rw [hnl]
                    · rw [← HRA.out, HAr.out]
                      exact K3.out
                  · have hne : (E2 != 0) = true := by simpa using h2
                    have k2 := put5_blk (v0 := .slice none 0 0) (v1 := .int .i64 0) (v2 := .int .i64 0) (v3 := .int .i64 0) (v4 := .int .i64 0) bR13
                    have k4 := put5_low (b := w.heap.size + 1) (v0 := .slice none 0 0) (v1 := .int .i64 0) (v2 := .int .i64 0) (v3 := .int .i64 0) (v4 := .int .i64 0) HB13.out (by omega)
                    have fR := (bR13).frozen
                    have cR := (bR13).cell
                    have lR := (bR13).lt
                    have K4 := Lib.hid k4
                    have K2 := Lib.hid k2
                    clear k2 k4
                    go_wp2_with fail
                    refine bodyPost_ret (v := .tuple #[.agg #[.slice none 0 0, .int .i64 0, .int .i64 0, .int .i64 0, .int .i64 0], .int .i64 E2]) (res_arm Tryz.results45 rfl rfl K2.out) rfl ⟨K4.out, .inr ⟨by rw [← HRE.out, HEr.out]; exact h2, by rw [← HRE.out, HEr.out]⟩⟩
          · skip
            as_aux_lemma =>
              have hne : (E1 != 0) = true := by simpa using h1
              have HEr : Hid (repE a nm cg = E1) := Lib.hid (by unfold repE or0; rw [HE1.out, if_neg h1])
              have k2 := put5_blk (v0 := .slice none 0 0) (v1 := .int .i64 0) (v2 := .int .i64 0) (v3 := .int .i64 0) (v4 := .int .i64 0) bR5
              have k4 := put5_low (b := w.heap.size + 1) (v0 := .slice none 0 0) (v1 := .int .i64 0) (v2 := .int .i64 0) (v3 := .int .i64 0) (v4 := .int .i64 0) HB5.out (by omega)
              have fR := (bR5).frozen
              have cR := (bR5).cell
              have lR := (bR5).lt
              have K4 := Lib.hid k4
              have K2 := Lib.hid k2
              clear k2 k4
              go_wp2_with fail
              refine bodyPost_ret (v := .tuple #[.agg #[.slice none 0 0, .int .i64 0, .int .i64 0, .int .i64 0, .int .i64 0], .int .i64 E1]) (res_arm Tryz.results45 rfl rfl K2.out) rfl ⟨K4.out, .inr ⟨by rw [← HRE.out, HEr.out]; exact h1, by rw [← HRE.out, HEr.out]⟩⟩
end Go.Proofs.YtafnebfchhmgcaaGreat
