/- Joined texts: ZD ZE ZF ZG ZH ZI. -/
import Derived.Test.YtphlojgmfkgeiaaGreatDoorKf
import Derived.Test.YtphlojgmfkgeiaaGreatDoorKc
import Derived.Maps.OwnSet
import Derived.Maps.OwnIn
/- A yard in a state, with its error. -/
namespace Go.Proofs.YtphlojgmfkgeiaaGreatDoor
open Go.RowKit Go.Sort Go.Shelf
set_option linter.unusedSimpArgs false
set_option linter.unusedVariables false
attribute [local go_sem] cell_if frozen_if grow_cell
def withE (y : Yd) (s : Int) : Int := or0 (firstE [yardE y, stE y.w.length s]) (whenE (!soundB (y.at s)) 22)
theorem stE_zero {n : Nat} {s : Int} (h : stE n s = 0) : 0 ≤ s ∧ s < 2 ^ n := by
  have := whenE_zero (by decide) h
  simpa using this
set_option maxRecDepth 100000 in
set_option maxHeartbeats 1000000 in
theorem With_any (B : Nat) (A0 A1 A2 : Option Addr) (n0 n1 n2 c0 c1 c2 : Nat) (y : Yd) (w : World) (hY : YdAt w B A0 A1 A2 n0 n1 n2 y) (hB : B ≤ w.heap.size) (hT : Tabs w) (hF : Fits y) (s : Int) :
    Calls Tryz.prog 43 #[.agg #[.slice A0 n0 c0, .slice A1 n1 c1, .slice A2 n2 c2], .int .i64 s] w (YdERes w (withE y s) (y.at s)) := by
  have hl0 := (sec_at hY.hs).1
  have hl1 := (sw_at hY.hw).1
  have hl2 := (pm_at hY.hp).1
  have H1 := Lib.hid (fun W (hW : Below w.heap.size w W) => CheckYard_any B A0 A1 A2 n0 n1 n2 c0 c1 c2 y W (hY.below (hW.mono hB)) (by have := hW.size; omega) (hT.kept hW) hF)
  have H2 := Lib.hid (fun W => checkState_any A0 A1 A2 n0 n1 n2 c0 c1 c2 s W (by have := hF.w9; omega))
  have HWE : Hid (withE y s = or0 (firstE [yardE y, stE n1 s]) (whenE (!soundB (y.at s)) 22)) := by show _ = _; rw [withE, hl1]
  rw [HWE.out]
  cases he : (firstE [yardE y, stE n1 s] != 0) with
  | true =>
    have HE := Lib.hid (show firstE [yardE y, stE n1 s] ≠ 0 by simpa using he)
    have HZ : Hid (or0 (firstE [yardE y, stE n1 s]) (whenE (!soundB (y.at s)) 22) = firstE [yardE y, stE n1 s]) := by show _ = _; rw [or0_neg HE.out]
    rw [HZ.out]
    clear HZ HWE hY hT hF
    generalize yardE y = a1 at *
    generalize stE n1 s = a2 at *
    generalize hee : firstE [a1, a2] = ee at *
    have HEQ := Lib.hid hee
    clear hee
    go_enter Tryz.func43, Tryz.ntmps43
    go_wp2_with fail
    (refine wp_region_calm [] [0, 1, 2, 3, 4] 3 (by kernel_rfl) rfl (by kernel_rfl) (by kernel_rfl) (by kernel_rfl) ?_; simp only [pickB, List.filterMap_cons, List.filterMap_nil, List.getElem?_toArray, List.getElem?_cons_zero, List.getElem?_cons_succ]; (repeat (first | ((first | (with_reducible refine quietL_plain rfl (fun K hK => ?_)) | (with_reducible refine quietL_want (by with_unfolding_all rfl) (fun K hK => ?_))); (apply Exists.intro; refine ⟨fun wx hx => ?_, ?_⟩; (· (have hcx := ifs_ex hx); simp [go_sem, *, ↓IntWalk.iteOmega] <;> (first | rfl | exact ⟨rfl, rfl⟩ | (have hbx := Ex.below hx; first | (with_reducible exact calls_B (H2.out _)) | exact calls_B (H1.out _ bl_)))); (simp only [Act.put, List.setIfInBounds_toArray, List.set_cons_zero, List.set_cons_succ]; refine hK _ ?_; clear hK K))) | ((with_reducible refine quietL_skip (by with_unfolding_all rfl) ?_); simp only [Act.put, List.setIfInBounds_toArray, List.set_cons_zero, List.set_cons_succ]))); refine quietL_nil ?_)
    (refine anyB_one (i := 5) (by kernel_rfl) rfl rfl ?_; intro w2 hb2 K hK; obtain ⟨hc2, hf2⟩ := ifs_of hb2; have hs2 := hb2.size; (try simp at hs2); go_wp2; refine ⟨xs_, ?_⟩)
    (refine anyB_one (i := 6) (by kernel_rfl) rfl rfl ?_; intro w3 hb3 K hK; obtain ⟨hc3, hf3⟩ := ifs_of hb3; have hs3 := hb3.size; (try simp at hs3); go_wp2_with fail; refine (pfirst_any (w2.heap.size + 1) _ 2 2 [a1, a2] _ ((by simpa using Reads.new (size := 1) w2 (([a1, a2]).map (.int .i64)).toArray 34 2 rfl : Reads (w2.alloc (.cells (([a1, a2]).map (.int .i64)).toArray 34)) (w2.heap.size + 1) 1 (some ⟨w2.heap.size, 0, none⟩) 2 (([a1, a2]).map (.int .i64))).below (hb3.mono (by simp))) (by unfold maxLen; decide)).mono ?_; rintro e w3' ⟨rfl, rfl⟩; go_wp2; refine ⟨xs_, ?_⟩)
    rw [HEQ.out]
    (refine anyB_one (i := 7) (by kernel_rfl) rfl rfl ?_; intro w4 hb4 K hK; obtain ⟨hc4, hf4⟩ := ifs_of hb4; have hs4 := hb4.size; (try simp at hs4); go_wp2; refine ⟨xs_, ?_⟩)
    (refine anyB_end (by kernel_rfl) ?_; intro w5 hb5; obtain ⟨hc5, hf5⟩ := ifs_of hb5; have hs5 := hb5.size; (try simp at hs5); simp only [Calm]; go_wp2_with fail)
    refine bodyPost_ret (v := .tuple #[zeroY, .int .i64 ee]) ?_ rfl (Or.inr ⟨HE.out, rfl, bl_⟩)
    have ck := (bk_ : Blk w5 (w.heap.size + 1) 41 #[.slice none 0 0, .slice none 0 0, .slice none 0 0])
    have ck := (((ck.set_ 0 (.slice none 0 0)).set_ 1 (.slice none 0 0)).set_ 2 (.slice none 0 0)).cell
    simp [results, Tryz.results43, go_sem, zeroY, ck]
  | false =>
    have HE := Lib.hid (show firstE [yardE y, stE n1 s] = 0 by simpa using he)
    have HZ : Hid (or0 (firstE [yardE y, stE n1 s]) (whenE (!soundB (y.at s)) 22) = whenE (!soundB (y.at s)) 22) := by show _ = _; rw [or0_pos HE.out]
    rw [HZ.out]
    have hee := HE.out
    have hy0 : yardE y = 0 ∧ stE n1 s = 0 := by
      rw [firstE_cons, firstE_cons, firstE_nil] at hee
      obtain ⟨k1, k2⟩ := or0_zero hee
      exact ⟨k1, (or0_zero k2).1⟩
    obtain ⟨k0, k1⟩ := stE_zero hy0.2
    have hP := (yard_ok hy0.1).1
    have h8 := hP.w8
    have hp9 := pow9 (k := n1) (by omega)
    have H3 := Lib.hid (fun W (hW : Below w.heap.size w W) => with_any B A0 A1 A2 n0 n1 n2 c0 c1 c2 y s W (hY.below (hW.mono hB)) (by have := hW.size; omega) (by have := hF.s9; omega) (by omega) (by have := hF.p9; omega) k0 (by omega))
    have hPat := hP.at s
    have H4 := Lib.hid (fun W BB D0 D1 D2 m0 m1 m2 d0 d1 d2 (hZ : YdAt W BB D0 D1 D2 m0 m1 m2 (y.at s)) (hBB : BB ≤ W.heap.size) => sound_any BB D0 D1 D2 m0 m1 m2 d0 d1 d2 (y.at s) W hZ hBB hPat)
    rw [hy0.1, hy0.2] at hee
    rw [hy0.1] at H1
    rw [hy0.2] at H2
    clear HZ HWE hY hT hF hy0 k0 k1 hP h8 hp9 hPat HE he hl0 hl1 hl2
    have HEQ := Lib.hid hee
    clear hee
    cases hq : soundB (y.at s) with
    | false =>
      rw [hq] at H4
      go_enter Tryz.func43, Tryz.ntmps43
      go_wp2_with fail
      (refine wp_region_calm [] [0, 1, 2, 3, 4] 3 (by kernel_rfl) rfl (by kernel_rfl) (by kernel_rfl) (by kernel_rfl) ?_; simp only [pickB, List.filterMap_cons, List.filterMap_nil, List.getElem?_toArray, List.getElem?_cons_zero, List.getElem?_cons_succ]; (repeat (first | ((first | (with_reducible refine quietL_plain rfl (fun K hK => ?_)) | (with_reducible refine quietL_want (by with_unfolding_all rfl) (fun K hK => ?_))); (apply Exists.intro; refine ⟨fun wx hx => ?_, ?_⟩; (· (have hcx := ifs_ex hx); simp [go_sem, *, ↓IntWalk.iteOmega] <;> (first | rfl | exact ⟨rfl, rfl⟩ | (have hbx := Ex.below hx; first | (with_reducible exact calls_B (H2.out _)) | exact calls_B (H1.out _ bl_)))); (simp only [Act.put, List.setIfInBounds_toArray, List.set_cons_zero, List.set_cons_succ]; refine hK _ ?_; clear hK K))) | ((with_reducible refine quietL_skip (by with_unfolding_all rfl) ?_); simp only [Act.put, List.setIfInBounds_toArray, List.set_cons_zero, List.set_cons_succ]))); refine quietL_nil ?_)
      (refine anyB_one (i := 5) (by kernel_rfl) rfl rfl ?_; intro w2 hb2 K hK; obtain ⟨hc2, hf2⟩ := ifs_of hb2; have hs2 := hb2.size; (try simp at hs2); go_wp2; refine ⟨xs_, ?_⟩)
      (refine anyB_one (i := 6) (by kernel_rfl) rfl rfl ?_; intro w3 hb3 K hK; obtain ⟨hc3, hf3⟩ := ifs_of hb3; have hs3 := hb3.size; (try simp at hs3); go_wp2_with fail; refine (pfirst_any (w2.heap.size + 1) _ 2 2 [0, 0] _ ((by simpa using Reads.new (size := 1) w2 (([0, 0]).map (.int .i64)).toArray 34 2 rfl : Reads (w2.alloc (.cells (([0, 0]).map (.int .i64)).toArray 34)) (w2.heap.size + 1) 1 (some ⟨w2.heap.size, 0, none⟩) 2 (([0, 0]).map (.int .i64))).below (hb3.mono (by simp))) (by unfold maxLen; decide)).mono ?_; rintro e w3' ⟨rfl, rfl⟩; go_wp2; refine ⟨xs_, ?_⟩)
      rw [HEQ.out]
      (refine anyB_one (i := 7) (by kernel_rfl) rfl rfl ?_; intro w4 hb4 K hK; obtain ⟨hc4, hf4⟩ := ifs_of hb4; have hs4 := hb4.size; (try simp at hs4); go_wp2; refine ⟨xs_, ?_⟩)
      (refine anyB_end (by kernel_rfl) ?_; intro w5 hb5; obtain ⟨hc5, hf5⟩ := ifs_of hb5; have hs5 := hb5.size; (try simp at hs5); simp only [Calm]; go_wp2_with fail)
      refine (H3.out _ bl_).mono ?_
      rintro e w6 ⟨D0, D2, d0, d2, g, rfl, hO, hb6⟩
      have hs6 := hb6.size
      (try simp at hs6)
      have HO := Lib.hid hO
      have hgl := hO.2.1.lt
      clear hO
      obtain ⟨hc6, hf6⟩ := ifs_of hb6; have hs6 := hb6.size; (try simp at hs6)
      go_wp2_with fail
      refine (H4.out _ w6.heap.size D0 _ D2 _ _ _ d0 _ d2 ((yd_own HO.out).below bl_) (by simp)).mono ?_
      (rintro e w7 ⟨rfl, hb7⟩; have hs7 := hb7.size; (try simp at hs7))
      obtain ⟨hc7, hf7⟩ := ifs_of hb7; have hs7 := hb7.size; (try simp at hs7)
      go_wp2_with fail
      refine bodyPost_ret (v := .tuple #[zeroY, .int .i64 22]) ?_ rfl (Or.inr ⟨by decide, rfl, bl_⟩)
      have ck := (bk_ : Blk w7 (w.heap.size + 1) 41 #[.slice none 0 0, .slice none 0 0, .slice none 0 0])
      have ck := (((ck.set_ 0 (.slice none 0 0)).set_ 1 (.slice none 0 0)).set_ 2 (.slice none 0 0)).cell
      simp [results, Tryz.results43, go_sem, zeroY, ck]
    | true =>
      rw [hq] at H4
      go_enter Tryz.func43, Tryz.ntmps43
      go_wp2_with fail
      (refine wp_region_calm [] [0, 1, 2, 3, 4] 3 (by kernel_rfl) rfl (by kernel_rfl) (by kernel_rfl) (by kernel_rfl) ?_; simp only [pickB, List.filterMap_cons, List.filterMap_nil, List.getElem?_toArray, List.getElem?_cons_zero, List.getElem?_cons_succ]; (repeat (first | ((first | (with_reducible refine quietL_plain rfl (fun K hK => ?_)) | (with_reducible refine quietL_want (by with_unfolding_all rfl) (fun K hK => ?_))); (apply Exists.intro; refine ⟨fun wx hx => ?_, ?_⟩; (· (have hcx := ifs_ex hx); simp [go_sem, *, ↓IntWalk.iteOmega] <;> (first | rfl | exact ⟨rfl, rfl⟩ | (have hbx := Ex.below hx; first | (with_reducible exact calls_B (H2.out _)) | exact calls_B (H1.out _ bl_)))); (simp only [Act.put, List.setIfInBounds_toArray, List.set_cons_zero, List.set_cons_succ]; refine hK _ ?_; clear hK K))) | ((with_reducible refine quietL_skip (by with_unfolding_all rfl) ?_); simp only [Act.put, List.setIfInBounds_toArray, List.set_cons_zero, List.set_cons_succ]))); refine quietL_nil ?_)
      (refine anyB_one (i := 5) (by kernel_rfl) rfl rfl ?_; intro w2 hb2 K hK; obtain ⟨hc2, hf2⟩ := ifs_of hb2; have hs2 := hb2.size; (try simp at hs2); go_wp2; refine ⟨xs_, ?_⟩)
      (refine anyB_one (i := 6) (by kernel_rfl) rfl rfl ?_; intro w3 hb3 K hK; obtain ⟨hc3, hf3⟩ := ifs_of hb3; have hs3 := hb3.size; (try simp at hs3); go_wp2_with fail; refine (pfirst_any (w2.heap.size + 1) _ 2 2 [0, 0] _ ((by simpa using Reads.new (size := 1) w2 (([0, 0]).map (.int .i64)).toArray 34 2 rfl : Reads (w2.alloc (.cells (([0, 0]).map (.int .i64)).toArray 34)) (w2.heap.size + 1) 1 (some ⟨w2.heap.size, 0, none⟩) 2 (([0, 0]).map (.int .i64))).below (hb3.mono (by simp))) (by unfold maxLen; decide)).mono ?_; rintro e w3' ⟨rfl, rfl⟩; go_wp2; refine ⟨xs_, ?_⟩)
      rw [HEQ.out]
      (refine anyB_one (i := 7) (by kernel_rfl) rfl rfl ?_; intro w4 hb4 K hK; obtain ⟨hc4, hf4⟩ := ifs_of hb4; have hs4 := hb4.size; (try simp at hs4); go_wp2; refine ⟨xs_, ?_⟩)
      (refine anyB_end (by kernel_rfl) ?_; intro w5 hb5; obtain ⟨hc5, hf5⟩ := ifs_of hb5; have hs5 := hb5.size; (try simp at hs5); simp only [Calm]; go_wp2_with fail)
      refine (H3.out _ bl_).mono ?_
      rintro e w6 ⟨D0, D2, d0, d2, g, rfl, hO, hb6⟩
      have hs6 := hb6.size
      (try simp at hs6)
      have HO := Lib.hid hO
      have hgl := hO.2.1.lt
      clear hO
      obtain ⟨hc6, hf6⟩ := ifs_of hb6; have hs6 := hb6.size; (try simp at hs6)
      go_wp2_with fail
      refine (H4.out _ w6.heap.size D0 _ D2 _ _ _ d0 _ d2 ((yd_own HO.out).below bl_) (by simp)).mono ?_
      (rintro e w7 ⟨rfl, hb7⟩; have hs7 := hb7.size; (try simp at hs7))
      obtain ⟨hc7, hf7⟩ := ifs_of hb7; have hs7 := hb7.size; (try simp at hs7)
      have bz := (bk_ : Blk w7 (w.heap.size + 1) 41 #[.slice none 0 0, .slice none 0 0, .slice none 0 0])
      have hO7 : OwnYd w5.heap.size (y.at s) (.slice D0 (y.at s).s.length d0) (.slice D2 (y.at s).p.length d2) g w7 := HO.out.kept bl_
      have hb := (bl_ : Below w.heap.size w w7)
      have hO6 := ((hO7.far (i := 0) bz (.slice D0 (y.at s).s.length d0) (by decide) (by decide) (by decide)).far (i := 1) (bz.set_ 0 _) (.slice (some ⟨g, 0, none⟩) (y.at s).w.length (y.at s).w.length) (by decide) (by decide) (by decide)).far (i := 2) ((bz.set_ 0 _).set_ 1 _) (.slice D2 (y.at s).p.length d2) (by decide) (by decide) (by decide)
      have hbl6 := ((hb.setCell (p := ⟨w.heap.size + 1, 0, none⟩) (by simp) (.slice D0 (y.at s).s.length d0)).setCell (p := ⟨w.heap.size + 1, 1, none⟩) (by simp) (.slice (some ⟨g, 0, none⟩) (y.at s).w.length (y.at s).w.length)).setCell (p := ⟨w.heap.size + 1, 2, none⟩) (by simp) (.slice D2 (y.at s).p.length d2)
      have ck := (((bz.set_ 0 (.slice D0 (y.at s).s.length d0)).set_ 1 (.slice (some ⟨g, 0, none⟩) (y.at s).w.length (y.at s).w.length)).set_ 2 (.slice D2 (y.at s).p.length d2)).cell
      have HO6 := Lib.hid (And.intro hO6 hbl6)
      have cz := bz.cell
      have fz := bz.frozen
      have lz := bz.lt
      clear hO6 hbl6 hO7 hb bz
      go_wp2_with fail
      refine bodyPost_ret (v := .tuple #[.agg #[.slice D0 (y.at s).s.length d0, .slice (some ⟨g, 0, none⟩) (y.at s).w.length (y.at s).w.length, .slice D2 (y.at s).p.length d2], .int .i64 0]) ?_ rfl (Or.inl ⟨rfl, D0, D2, d0, d2, g, rfl, HO6.out.1.base (by omega), HO6.out.2⟩)
      simp [results, Tryz.results43, go_sem, ck]
end Go.Proofs.YtphlojgmfkgeiaaGreatDoor
/- Sections from the last to the first: an iterator. -/
namespace Go.Proofs.YtphlojgmfkgeiaaGreatDoor
open Go.RowKit Go.Sort Go.Shelf
set_option linter.unusedSimpArgs false
set_option linter.unusedVariables false
attribute [local go_sem] cell_if frozen_if grow_cell
attribute [local go_sem] Oper.semAt_some
theorem Backward_any (A : Option Addr) (n c : Nat) (w : World) :
    Calls Tryz.prog 172 #[.slice A n c] w fun e w' => e = .returned (.func (.func 198) #[] #[.pointer (some ⟨w.heap.size, 0, none⟩)]) ∧ w.alloc (.cells #[.slice A n c] 37) = w' := by
  go_enter Tryz.func172, Tryz.ntmps172
  go_wp2
  go_ret
  exact ⟨rfl, rfl⟩
/-- The indices from n - 1 down. -/
def dn (n : Nat) : Nat → List Nat
  | 0 => []
  | k + 1 => dn n k ++ [n - 1 - k]
theorem dn_len (n : Nat) : ∀ k, (dn n k).length = k
  | 0 => rfl
  | k + 1 => by simp [dn, dn_len n k]
/-- The section at an index (below 512; an index beyond is folded in). -/
def sAt (l : List Sec) (k : Nat) : Sec := (l[k % 512]?).getD ⟨⟨#[]⟩, false⟩
theorem sAt_get {l : List Sec} {k : Nat} (h : k < l.length) (h9 : l.length ≤ 400) : sAt l k = l[k] := by
  unfold sAt
  rw [Nat.mod_eq_of_lt (show k < 512 by omega), List.getElem?_eq_getElem h]
  rfl
def bkV (l : List Sec) (k : Nat) : Array Value := #[.int .i64 ((k % 512 : Nat) : Int), .agg #[.string (sAt l k).n, .bool (sAt l k).src]]
set_option maxRecDepth 100000 in
set_option maxHeartbeats 4000000 in
theorem bk_stops (n g1 bo n₀ : Nat) (A : Option Addr) (n0 c0 : Nat) (l : List Sec) (w : World) (hn : 3 ≤ n) (hY : Reads w n₀ 2 A n0 (secs l)) (h0 : n₀ ≤ w.heap.size) (hn1 : n0 ≤ 400) (hp : Blk w g1 37 #[.slice A n0 c0]) :
    SeqStopsK Fence.wide n Tryz.prog 198 #[.pointer (some ⟨g1, 0, none⟩)] (bkV l) (KpN n₀ bo g1) (fun xs => xs = dn n0 n0) (fun _ => True) 401 w := fun L J Jx W hW hJ hJx hR hJ0 => by
  obtain ⟨hl, hat⟩ := sec_at hY
  have HL := Lib.hid hl
  have HA := Lib.hid hat
  have b1 := hp.kept hW
  have hnW : n₀ ≤ W.heap.size := Nat.le_trans h0 hW.size
  have hWl := Lib.hid (hW.mono h0)
  have l1 := b1.lt
  have c1 := b1.cell 0
  simp at c1
  clear hl hat hY hp hW
  refine callsIn_of_wp Tryz.func198 rfl trivial ?_ rfl
  simp only [Tryz.ntmps198, List.size_toArray, List.length_cons, List.length_nil, Nat.reduceAdd, Nat.reduceSub, Array.replicate_succ, Array.replicate_zero, List.push_toArray, List.append_toArray, List.nil_append, List.cons_append]
  gi_wp2
  gi_loopw [3] (fun i wr => ∃ k : Nat, k ≤ n0 ∧ i = .int .i64 ((n0 : Int) - 1 - k) ∧ J (dn n0 k) wr ∧ KpN n₀ bo g1 W wr ∧ W.heap.size ≤ wr.heap.size) (fun i _ => (intOf i + 1).toNat)
  case atStart => exact ⟨0, Nat.zero_le _, by simp, hJ0, ⟨Below.refl _ _, fun _ _ _ _ _ h => h, rfl⟩, Nat.le_refl _⟩
  case round =>
    obtain ⟨k, hk, rfl, hJk, hkp, hsz⟩ := hrel
    have q1 : Blk wr g1 37 #[.slice A n0 c0] := hkp.sec.trans b1
    have c1' := q1.cell 0
    simp at c1'
    by_cases hlt : k < n0
    · have hkl : n0 - 1 - k < l.length := by rw [HL.out]; omega
      obtain ⟨b, o, eA, hbb, z0, z1⟩ := HA.out (n0 - 1 - k) hkl
      have kb : ∀ i, wr.cell? ⟨b, i, none⟩ = w.cell? ⟨b, i, none⟩ := fun i => (hWl.out.trans hkp.low).cell (p := ⟨b, i, none⟩) hbb
      rw [← kb] at z0 z1
      clear kb
      subst eA
      have eI : ((n0 : Int) - 1 - k) = ((n0 - 1 - k : Nat) : Int) := by omega
      rw [eI]
      have HD : Hid (dn n0 (k + 1) = dn n0 k ++ [n0 - 1 - k]) := rfl
      have hlen := dn_len n0 k
      have hV : bkV l (n0 - 1 - k) = #[.int .i64 ((n0 - 1 - k : Nat) : Int), .agg #[.string l[n0 - 1 - k].n, .bool l[n0 - 1 - k].src]] := by rw [bkV, sAt_get hkl (by rw [HL.out]; exact hn1), Nat.mod_eq_of_lt (by omega)]
      obtain ⟨fn, tmps, assign, body, hy, hR1⟩ := hR _ (n0 - 1 - k) _ hJk (by omega)
      rw [hV] at hy
      have hi0 : n0 - 1 - k < n0 := by omega
      generalize hii : n0 - 1 - k = i at *
      generalize l[i] = x at *
      obtain ⟨xn, xs⟩ := x
      dsimp only at z0 z1 hy
      (gi_wp2; (try (refine ⟨fun _ h => (by cases h), ?_⟩; gi_wp2)); (try (refine ⟨fun _ h => (by cases h), ?_⟩; gi_wp2)))
      refine ⟨(fun _ => by omega), hR1.mono ?_⟩
      rintro e W3 (⟨rfl, hJ3, hk3⟩ | ⟨rfl, hJx3⟩)
      · (gi_wp2; (try (refine ⟨fun _ h => (by cases h), ?_⟩; gi_wp2)); (try (refine ⟨fun _ h => (by cases h), ?_⟩; gi_wp2)))
        go_roundw
        case rel => exact ⟨k + 1, by omega, by congr 1; omega, by rw [HD.out]; exact hJ3, hkp.t hk3, Nat.le_trans hsz hk3.low.size⟩
        case measure => simp [intOf]
      · (gi_wp2; (try (refine ⟨fun _ h => (by cases h), ?_⟩; gi_wp2)); (try (refine ⟨fun _ h => (by cases h), ?_⟩; gi_wp2)))
        refine bodyPost_ret (results_none rfl _ _ _) rfl ?_
        exact ⟨⟨_, rfl⟩, .inr ⟨_, trivial, hJx3⟩⟩
    · obtain rfl : k = n0 := by omega
      gi_wp2
      go_end0
      exact ⟨⟨_, rfl⟩, .inl ⟨_, rfl, hJk⟩⟩
end Go.Proofs.YtphlojgmfkgeiaaGreatDoor
/- The index of the section with a name: the map that the loop builds. -/
namespace Go.Proofs.YtphlojgmfkgeiaaGreatDoor
open Go.RowKit Go.Sort Go.Shelf Go.Maps
set_option linter.unusedSimpArgs false
set_option linter.unusedVariables false
attribute [local go_sem] cell_if frozen_if grow_cell
def keyN (s : ByteArray) : Lit := .string s.data.toList
def mpD (l : List Sec) (ks : List Nat) : DataW Unit := ks.foldl (fun d k => d.put (keyN (sAt l k).n) (.lit (.int .i64 ((k % 512 : Nat) : Int)))) (.map [])
theorem mpD_snoc (l : List Sec) (ks : List Nat) (k : Nat) : mpD l (ks ++ [k]) = (mpD l ks).put (keyN (sAt l k).n) (.lit (.int .i64 ((k % 512 : Nat) : Int))) := by
  simp [mpD, List.foldl_append]
theorem keyN_inj {a b : ByteArray} : (a.toList == b.toList) = true ↔ keyN a = keyN b := by
  rw [toList_data, toList_data]
  unfold keyN
  simp
theorem keyN_ne {a b : ByteArray} (h : (a.toList == b.toList) = false) : keyN b ≠ keyN a := fun e => by
  rw [keyN_inj.2 e.symm] at h; cases h
theorem put_isMap (D : DataW Unit) (hD : IsMap D) (k : Lit) (d : DataW Unit) : IsMap (D.put k d) := by
  obtain ⟨es, rfl⟩ := hD
  exact ⟨_, rfl⟩
/-- The index of the first section with a name, or -1. -/
def secAtB (y : Yd) (nm : ByteArray) : Int := idxP (fun x : Sec => x.n.toList == nm.toList) 0 y.s
theorem mpD_ok (l : List Sec) (nm : ByteArray) (z : DataW Unit) (h9 : l.length ≤ 400) : ∀ k, k ≤ l.length → IsMap (mpD l (dn l.length k)) ∧
    Maps.has (mpD l (dn l.length k)) (keyN nm) = decide (0 ≤ idxP (fun x : Sec => x.n.toList == nm.toList) (l.length - k) (l.drop (l.length - k))) ∧
    (0 ≤ idxP (fun x : Sec => x.n.toList == nm.toList) (l.length - k) (l.drop (l.length - k)) → (mpD l (dn l.length k)).atKey (keyN nm) z = .lit (.int .i64 (idxP (fun x : Sec => x.n.toList == nm.toList) (l.length - k) (l.drop (l.length - k)))))
  | 0, _ => by
    refine ⟨⟨[], rfl⟩, ?_, ?_⟩
    · simp [dn, mpD, idxP, Maps.has]
    · simp [idxP]
  | k + 1, h => by
    obtain ⟨i0, i1, i2⟩ := mpD_ok l nm z h9 k (by omega)
    have hi : l.length - 1 - k < l.length := by omega
    have e1 : l.length - (k + 1) = l.length - 1 - k := by omega
    have e2 : l.drop (l.length - 1 - k) = l[l.length - 1 - k] :: l.drop (l.length - k) := by
      rw [List.drop_eq_getElem_cons hi]; congr 2; omega
    have e3 : l.length - 1 - k + 1 = l.length - k := by omega
    rw [dn, mpD_snoc l _ _, sAt_get hi h9, Nat.mod_eq_of_lt (show l.length - 1 - k < 512 by omega), e1, e2, idxP_cons, e3]
    refine ⟨put_isMap _ i0 _ _, ?_, ?_⟩
    · cases hx : (l[l.length - 1 - k].n.toList == nm.toList) with
      | true =>
        rw [keyN_inj.1 hx, has_put_same i0 (show WideAt.IsKeyLit (keyN _) from trivial)]
        simp
      | false =>
        rw [has_put_other (keyN_ne hx), i1]
        simp
    · cases hx : (l[l.length - 1 - k].n.toList == nm.toList) with
      | true =>
        rw [keyN_inj.1 hx]
        intro _
        rw [atKey_put_same i0 (show WideAt.IsKeyLit (keyN _) from trivial)]
        simp
      | false =>
        rw [atKey_put_other (keyN_ne hx)]
        simpa using i2
end Go.Proofs.YtphlojgmfkgeiaaGreatDoor
/- The index of the section with a name: the walk. -/
namespace Go.Proofs.YtphlojgmfkgeiaaGreatDoor
open Go.RowKit Go.Sort Go.Shelf Go.Maps Go.WideMaps
set_option linter.unusedSimpArgs false
set_option linter.unusedVariables false
attribute [local go_sem] cell_if frozen_if grow_cell
attribute [local go_sem] Oper.semAt_some
theorem lawS : Keyed Tryz.prog 9 := string_keyed Tryz.underlying9
theorem zeroS (w : World) : (zeroValue 3).run Tryz.prog w = .ok (.int .i64 0) w := by kernel_rfl
/-- While the map is laid: its block m, what lay below n₀, the blocks of the yard and of the variable. -/
def SecI (n₀ by_ bv m g1 : Nat) (A0 A1 A2 : Option Addr) (n0 n1 n2 c0 c1 c2 : Nat) (l : List Sec) (w : World) (pre : List Nat) (W : World) : Prop :=
  W.ownsMap Tryz.prog 9 (plainElem Tryz.prog 3) m pre.length (mpD l pre) ∧ Below n₀ w W ∧ Blk W by_ 41 #[.slice A0 n0 c0, .slice A1 n1 c1, .slice A2 n2 c2] ∧ Blk W bv 206 #[.map (some m)] ∧ g1 < W.heap.size
theorem sAt_size {l : List Sec} (h : ∀ x ∈ l, x.n.size ≤ maxLen) (k : Nat) : (sAt l k).n.size ≤ maxLen := by
  unfold sAt
  cases e : l[k % 512]? with
  | none => exact Nat.zero_le _
  | some x => exact h x (List.mem_of_getElem? e)
theorem wf16 (z : Nat) : (Lit.int .i64 ((z : Int) % 512)).wf = true := by
  have := (by decide +kernel : ∀ j : Fin 512, (Lit.int .i64 (j.val : Int)).wf = true) ⟨z % 512, Nat.mod_lt _ (by decide)⟩
  rwa [show (((⟨z % 512, Nat.mod_lt _ (by decide)⟩ : Fin 512).val : Nat) : Int) = (z : Int) % 512 from by simp] at this
theorem SecI.grown {n₀ by_ bv m g1 : Nat} {A0 A1 A2 : Option Addr} {n0 n1 n2 c0 c1 c2 : Nat} {l : List Sec} {w : World} {pre : List Nat} {U V : World} {row : Option Nat} {B : Nat} (hs : SecI n₀ by_ bv m g1 A0 A1 A2 n0 n1 n2 c0 c1 c2 l w pre U) (hg : U.grownBy V row)
    (hr : ∀ r, row = some r → B ≤ r) (h0 : n₀ ≤ by_) (h1 : n₀ ≤ B) (h2 : by_ < B) (h3 : bv < B) (h4 : m < B) : SecI n₀ by_ bv m g1 A0 A1 A2 n0 n1 n2 c0 c1 c2 l w pre V := by
  obtain ⟨a1, a2, a3, a4, a5⟩ := hs
  refine ⟨a1.kept hg (fun e => by have := hr _ e.symm; omega), a2.grown hg (by have := a3.lt; omega) (fun j hj => by have := hr _ hj; omega), (hg.block _ a3.lt (fun e => by have := hr _ e.symm; omega)).trans a3, (hg.block _ a4.lt (fun e => by have := hr _ e.symm; omega)).trans a4, by have := hg.size; omega⟩
set_option maxRecDepth 100000 in
set_option maxHeartbeats 2000000 in
theorem section_any (B : Nat) (A0 A1 A2 : Option Addr) (n0 n1 n2 c0 c1 c2 : Nat) (y : Yd) (nm : ByteArray) (w : World) (hY : YdAt w B A0 A1 A2 n0 n1 n2 y) (hB : B ≤ w.heap.size) (h9 : n0 ≤ 400) (hsn : ∀ x ∈ y.s, x.n.size ≤ maxLen) (hnm : nm.size ≤ maxLen) :
    Calls Tryz.prog 135 #[.agg #[.slice A0 n0 c0, .slice A1 n1 c1, .slice A2 n2 c2], .string nm] w fun e w' => e = .returned (.int .i64 (secAtB y nm)) ∧ Below w.heap.size w w' := by
  have hmm := @run_makeMap Tryz.prog
  have hl0 := (sec_at hY.hs).1
  refine (callsIn_wide (n := 9)).1 ?_
  refine callsIn_of_wp_marks Tryz.func135 rfl trivial ?_ rfl
  refine wpIn_wide.2 ?_
  simp only [Tryz.ntmps135, List.size_toArray, List.length_cons, List.length_nil, Nat.reduceAdd, Nat.reduceSub, Array.replicate_succ, Array.replicate_zero, List.push_toArray, List.append_toArray, List.nil_append, List.cons_append]
  go_wp2_with fail
  refine (Backward_any _ _ _ _).mono ?_
  rintro e wb ⟨rfl, hwb⟩
  have hbw : Below w.heap.size w wb := by rw [← hwb]; exact bl_
  have b0 : Blk wb w.heap.size 41 #[.slice A0 n0 c0, .slice A1 n1 c1, .slice A2 n2 c2] := by rw [← hwb]; exact bk_
  have b2 : Blk wb (w.heap.size + 1 + 1) 206 #[.map (some (w.heap.size + 1))] := by rw [← hwb]; exact bk_
  have b3 : Blk wb (w.heap.size + 1 + 1 + 1) 37 #[.slice A0 n0 c0] := by rw [← hwb]; exact bk_
  have hm : wb.ownsMap Tryz.prog 9 (plainElem Tryz.prog 3) (w.heap.size + 1) 0 (mpD y.s []) := by
    have := (((World.ownsMap_made (H := Unit) (w.alloc (.cells #[.slice A0 n0 c0, .slice A1 n1 c1, .slice A2 n2 c2] 41)) Tryz.prog 9 (plainElem Tryz.prog 3)).alloc (.cells #[.map (some (w.heap.size + 1))] 206)).alloc (.cells #[.slice A0 n0 c0] 37))
    rw [World.size_alloc] at this
    rw [← hwb]; exact this
  have hsb : wb.heap.size = w.heap.size + 1 + 1 + 1 + 1 := by rw [← hwb]; simp
  have hR0 := hY.hs.below (hbw.mono hB)
  clear hwb
  simp only [World.size_alloc]
  go_wp2_with fail
  refine (wpIn_wide (n := 9)).1 ?_
  refine wpIn_rangeFunc_ownH rfl (by omega) (gf := 198) (lb := #[.pointer (some ⟨w.heap.size + 1 + 1 + 1, 0, none⟩)]) rfl trivial (enters_of Tryz.func198 (by kernel_rfl) rfl)
    (bk_stops 8 (w.heap.size + 1 + 1 + 1) 0 B A0 n0 c0 y.s wb (by omega) hR0 (by omega) h9 b3) KpN.t (KpN.b (by omega) (by omega)) (Below.refl _ _) (fun _ => rfl)
    (fun pre W => SecI w.heap.size w.heap.size (w.heap.size + 1 + 1) (w.heap.size + 1) (w.heap.size + 1 + 1 + 1) A0 A1 A2 n0 n1 n2 c0 c1 c2 y.s w pre W)
    (fun _ _ _ => False)
    ?own (fun _ _ _ _ _ hs _ _ => hs) ?start
    (fun x a' W => ∃ q, a' = { tmps := #[.agg #[.slice A0 n0 c0, .slice A1 n1 c1, .slice A2 n2 c2], .string nm, .pointer (some ⟨w.heap.size, 0, none⟩), undef, .int .i64 0, .pointer (some ⟨w.heap.size + 1 + 1, 0, none⟩), .int .i64 ((x : Int) % 512), .pointer (some ⟨q, 0, none⟩), undef, undef, .map (some (w.heap.size + 1)), .pointer (some ⟨w.heap.size, 0, none⟩), .slice A0 n0 c0, .func (.func 198) #[] #[.pointer (some ⟨w.heap.size + 1 + 1 + 1, 0, none⟩)], .int .i64 ((x : Int) % 512), .agg #[.string (sAt y.s x).n, .bool (sAt y.s x).src], undef, undef, undef, undef, undef, undef, undef, undef, undef, undef, undef, undef], defers := [] } ∧ wb.heap.size ≤ q ∧ Blk W q 133 #[.string (sAt y.s x).n, .bool (sAt y.s x).src]) ?ownA ?assign ?body ?done ?stop
  case own => exact fun pre U V row hs hg hr => hs.grown hg (fun r e => (hr r e).1) (Nat.le_refl _) (by omega) (by omega) (by omega) (by omega)
  case start => exact ⟨hm, hbw, b0, b2, by omega⟩
  case ownA =>
    rintro x a' _ U V row ⟨q, e, hq, hb⟩ hg hr
    refine ⟨q, e, hq, (hg.block q hb.lt (fun e => ?_)).trans hb⟩
    obtain ⟨_, o, ho, hc⟩ := hr q e.symm
    rw [show U.heap[q]? = _ from hb] at ho
    cases ho
    cases hc
  case assign =>
    rintro l' pre z W K hI hK
    dsimp only [bkV]
    gi_wp2
    have hIn : W.grownBy (W.alloc (.cells #[.string (sAt y.s z).n, .bool (sAt y.s z).src] 133)) none := World.grownBy_alloc W _ none
    refine hK _ _ (KeepsFrom.of_grownBy hIn (fun _ e => by cases e)) (KpN.of ?_ ?_ bl_) (hI.grown (B := wb.heap.size) hIn (fun _ e => by cases e) (Nat.le_refl _) (by omega) (by omega) (by omega) (by omega)) ⟨W.heap.size, rfl, ?_, Blk.new _ _ _⟩
    · have := hI.2.1.size; omega
    · exact hI.2.2.2.2
    · have := hI.2.2.2.2; omega
  case body =>
    rintro l' pre z a' W hl ⟨r, hr⟩ hI ⟨q, rfl, hq, hbq⟩ hlp
    obtain ⟨hown, hlow, hb0', hb2', hg1⟩ := hI
    have v2 := hb2'.cell 0
    have vq := hbq.cell
    simp at v2
    have hkey := keyOf_string_mk (P := Tryz.prog) Tryz.underlying9 (sAt_size hsn z)
    have hwf := wf16 z
    gi_wp2_with (gi_at_mapUpdate; refine wpListIn_mapUpdate_in _ rfl _ _ _ 206 rfl 9 3 lawS Tryz.underlying206 _ (w.heap.size + 1) _ _ rfl hown (by unfold maxLen; omega) _ _ _ rfl rfl hkey _ [] (plainElem_int Tryz.underlying3 hwf) ?_; intro w1 hown1 hturn1)
    have hg := hturn1.grown
    have hmap : ∃ es cl, W.heap[w.heap.size + 1]? = some (.map es cl) := by obtain ⟨es, cl, _, _, h, _⟩ := hturn1; exact ⟨es, cl, h⟩
    refine ⟨KeepsFrom.of_grownBy hg (fun j e => by cases e; omega), ⟨(Below.refl B W).grown hg (by have := hlow.size; omega) (fun j e => by cases e; omega), fun k t c _ _ hb => (hg.block k hb.lt (fun e => ?_)).trans hb, hg.block _ hg1 (fun e => by injection e; omega)⟩, ?_, hlow.grown hg (by have := hlow.size; omega) (fun j e => by cases e; omega), (hg.block _ hb0'.lt (fun e => by injection e; omega)).trans hb0', (hg.block _ hb2'.lt (fun e => by injection e; omega)).trans hb2', by have := hg.size; omega⟩
    · cases e
      obtain ⟨es, cl, h⟩ := hmap
      rw [show W.heap[w.heap.size + 1]? = _ from hb] at h
      cases h
    · rw [mpD_snoc, List.length_append]
      exact hown1
  case done =>
    rintro D ys W hD rfl ⟨hown, hlow, hb0', hb2', hg1⟩ hK
    have v2 := hb2'.cell 0
    simp at v2
    obtain ⟨o0, o1, o2⟩ := mpD_ok y.s nm (.lit (.int .i64 0)) (by omega) y.s.length (Nat.le_refl _)
    simp only [Nat.sub_self, List.drop_zero] at o1 o2
    rw [hl0] at o1 o2
    have hkey := keyOf_string_mk (P := Tryz.prog) Tryz.underlying9 hnm
    have hneg : ¬ 0 ≤ secAtB y nm → secAtB y nm = -1 := fun h => by
      rcases idxP_bd (fun x : Sec => x.n.toList == nm.toList) y.s 0 with h' | ⟨_, e⟩
      · unfold secAtB at h ⊢; omega
      · exact e
    change Maps.has _ _ = decide (0 ≤ secAtB y nm) at o1
    change 0 ≤ secAtB y nm → _ = DataW.lit (.int .i64 (secAtB y nm)) at o2
    have HL := Lib.hid hlow
    have HK := Lib.hid hK
    have HD := Lib.hid hD
    have O2 := Lib.hid o2
    have HN := Lib.hid hneg
    clear o2 hneg hlow hK hD
    have HF : ∀ v : Value, v = .int .i64 (secAtB y nm) → True := fun _ _ => trivial
    clear HF
    cases hq : decide (0 ≤ secAtB y nm) with
    | true =>
      rw [hq] at o1
      have o1' : Maps.has (mpD y.s (dn n0 n0)) (.string nm.data.toList) = true := o1
      go_wp2_with (at_lookup; refine wpList_lookup_own_ok_int _ rfl _ _ 206 rfl 9 3 .i64 lawS Tryz.underlying206 Tryz.underlying3 (zeroS _) (w.heap.size + 1) _ _ rfl hown _ _ rfl hkey ?_; intro c hat hwc)
      have hc : c = secAtB y nm := by
        have := (hat.symm.trans (O2.out (of_decide_eq_true hq)))
        injection this with this
        injection this
      refine leaves_marks w.heap.size [D] W (by simp) (fun E hE => by simp at hE; subst hE; exact HK.out) (fun E hE => by simp at hE; subst hE; have := HD.out; omega) fun w' hw' hkk hs => ?_
      refine ⟨_, results_tmp rfl _ _ _, ?_⟩
      exact ⟨by rw [← hc]; rfl, HL.out.trans hw'⟩
    | false =>
      rw [hq] at o1
      have o1' : Maps.has (mpD y.s (dn n0 n0)) (.string nm.data.toList) = false := o1
      go_wp2_with (at_lookup; refine wpList_lookup_own_ok_int _ rfl _ _ 206 rfl 9 3 .i64 lawS Tryz.underlying206 Tryz.underlying3 (zeroS _) (w.heap.size + 1) _ _ rfl hown _ _ rfl hkey ?_; intro c hat hwc)
      refine leaves_marks w.heap.size [D] W (by simp) (fun E hE => by simp at hE; subst hE; exact HK.out) (fun E hE => by simp at hE; subst hE; have := HD.out; omega) fun w' hw' hkk hs => ?_
      refine ⟨_, results_tmp rfl _ _ _, ?_⟩
      exact ⟨by rw [HN.out (by have := of_decide_eq_false hq; omega)]; rfl, HL.out.trans hw'⟩
  case stop =>
    rintro D c pre W _ _ hf _
    exact hf.elim
end Go.Proofs.YtphlojgmfkgeiaaGreatDoor
/- Goals: whether one holds; the error of a goal. -/
namespace Go.Proofs.YtphlojgmfkgeiaaGreatDoor
open Go.RowKit Go.Sort Go.Shelf
set_option linter.unusedSimpArgs false
set_option linter.unusedVariables false
attribute [local go_sem] cell_if frozen_if grow_cell
def energizedL : List UInt8 := [101, 110, 101, 114, 103, 105, 122, 101, 100]
def deadL : List UInt8 := [100, 101, 97, 100]
def securedL : List UInt8 := [115, 101, 99, 117, 114, 101, 100]
def holdsB (gk gs : ByteArray) (y : Yd) : Bool :=
  if gk.toList == energizedL then energB y (secAtB y gs) else if gk.toList == deadL then !energB y (secAtB y gs) else secB y (secAtB y gs)
theorem never_any (A0 A1 A2 : Option Addr) (n0 n1 n2 c0 c1 c2 : Nat) (w : World) : Calls Tryz.prog 121 #[.agg #[.slice A0 n0 c0, .slice A1 n1 c1, .slice A2 n2 c2]] w fun e w' => e = .returned (.bool false) ∧ Below w.heap.size w w' := by
  go_enter Tryz.func121, Tryz.ntmps121
  go_wp2_with fail
  go_ret
  exact ⟨rfl, bl_⟩
theorem secAtB_bd (y : Yd) (nm : ByteArray) : -1 ≤ secAtB y nm ∧ (0 ≤ secAtB y nm → secAtB y nm ∈ rng y.s.length) := by
  rcases idxP_bd (fun x : Sec => x.n.toList == nm.toList) y.s 0 with h | ⟨h, e⟩
  · unfold secAtB; exact ⟨by omega, fun h0 => mem_rng.2 ⟨h0, by omega⟩⟩
  · unfold secAtB; rw [e]; exact ⟨by omega, fun h0 => absurd h0 (by omega)⟩
set_option maxRecDepth 100000 in
set_option maxHeartbeats 1000000 in
theorem holds_any (B : Nat) (A0 A1 A2 : Option Addr) (n0 n1 n2 c0 c1 c2 : Nat) (y : Yd) (w : World) (hY : YdAt w B A0 A1 A2 n0 n1 n2 y) (hB : B ≤ w.heap.size) (hP : Parts y) (hsn : ∀ x ∈ y.s, x.n.size ≤ maxLen) (gk gs : ByteArray) (hgs : gs.size ≤ maxLen) (h0 : 0 ≤ secAtB y gs) :
    Calls Tryz.prog 83 #[.agg #[.string gk, .string gs], .agg #[.slice A0 n0 c0, .slice A1 n1 c1, .slice A2 n2 c2]] w fun e w' => e = .returned (.bool (holdsB gk gs y)) ∧ Below w.heap.size w w' := by
  have hl0 := (sec_at hY.hs).1
  have h8 := hP.n8
  have hi := (secAtB_bd y gs).2 h0
  have HS := Lib.hid (fun W (hW : Below w.heap.size w W) => section_any B A0 A1 A2 n0 n1 n2 c0 c1 c2 y gs W (hY.below (hW.mono hB)) (by have := hW.size; omega) (by omega) hsn hgs)
  have HE := Lib.hid (fun W (hW : Below w.heap.size w W) => energized_any B A0 A1 A2 n0 n1 n2 c0 c1 c2 y W (hY.below (hW.mono hB)) (by have := hW.size; omega) hP _ hi)
  have HU := Lib.hid (fun W (hW : Below w.heap.size w W) => secured_any B A0 A1 A2 n0 n1 n2 c0 c1 c2 y W (hY.below (hW.mono hB)) (by have := hW.size; omega) hP _ hi)
  clear hY hP hsn hi h0 hl0 h8
  unfold holdsB energizedL deadL
  generalize energB y (secAtB y gs) = q1 at *
  generalize secB y (secAtB y gs) = q2 at *
  generalize secAtB y gs = i at *
  cases h1 : (gk.toList == [101, 110, 101, 114, 103, 105, 122, 101, 100]) with
  | true =>
    go_enter Tryz.func83, Tryz.ntmps83
    go_wp2_with fail
    refine (HS.out _ bl_).mono ?_
    (rintro e w1 ⟨rfl, hb1⟩; have hs1 := hb1.size; (try simp at hs1))
    obtain ⟨hc1, hf1⟩ := ifs_of hb1; have hs1 := hb1.size; (try simp at hs1)
    go_wp2_with fail
    refine (HE.out _ bl_).mono ?_
    (rintro e w2 ⟨rfl, hb2⟩; have hs2 := hb2.size; (try simp at hs2))
    go_wp2_with fail
    go_ret
    exact ⟨rfl, bl_⟩
  | false =>
    cases h2 : (gk.toList == [100, 101, 97, 100]) with
    | true =>
      go_enter Tryz.func83, Tryz.ntmps83
      go_wp2_with fail
      refine (HS.out _ bl_).mono ?_
      (rintro e w1 ⟨rfl, hb1⟩; have hs1 := hb1.size; (try simp at hs1))
      obtain ⟨hc1, hf1⟩ := ifs_of hb1; have hs1 := hb1.size; (try simp at hs1)
      go_wp2_with fail
      refine (HE.out _ bl_).mono ?_
      (rintro e w2 ⟨rfl, hb2⟩; have hs2 := hb2.size; (try simp at hs2))
      go_wp2_with fail
      go_ret
      exact ⟨rfl, bl_⟩
    | false =>
      go_enter Tryz.func83, Tryz.ntmps83
      go_wp2_with fail
      refine (HS.out _ bl_).mono ?_
      (rintro e w1 ⟨rfl, hb1⟩; have hs1 := hb1.size; (try simp at hs1))
      obtain ⟨hc1, hf1⟩ := ifs_of hb1; have hs1 := hb1.size; (try simp at hs1)
      go_wp2_with fail
      refine (HU.out _ bl_).mono ?_
      (rintro e w2 ⟨rfl, hb2⟩; have hs2 := hb2.size; (try simp at hs2))
      go_wp2_with fail
      go_ret
      exact ⟨rfl, bl_⟩
def goalB (k : ByteArray) : Bool := hasW goalsL k
def goalE (y : Yd) (gk gs : ByteArray) : Int := firstE [yardE y, whenE (!goalB gk) 13, whenE (decide (secAtB y gs < 0)) 10]
set_option maxRecDepth 100000 in
set_option maxHeartbeats 1000000 in
theorem checkGoal_any (B : Nat) (A0 A1 A2 : Option Addr) (n0 n1 n2 c0 c1 c2 : Nat) (y : Yd) (w : World) (hY : YdAt w B A0 A1 A2 n0 n1 n2 y) (hB : B ≤ w.heap.size) (hT : Tabs w) (hF : Fits y) (gk gs : ByteArray) (hgs : gs.size ≤ maxLen) :
    Calls Tryz.prog 81 #[.agg #[.slice A0 n0 c0, .slice A1 n1 c1, .slice A2 n2 c2], .agg #[.string gk, .string gs]] w fun e w' => e = .returned (.int .i64 (goalE y gk gs)) ∧ Below w.heap.size w w' := by
  have hl0 := (sec_at hY.hs).1
  have H1 := Lib.hid (fun W (hW : Below w.heap.size w W) => CheckYard_any B A0 A1 A2 n0 n1 n2 c0 c1 c2 y W (hY.below (hW.mono hB)) (by have := hW.size; omega) (hT.kept hW) hF)
  have HS := Lib.hid (fun W (hW : Below w.heap.size w W) => section_any B A0 A1 A2 n0 n1 n2 c0 c1 c2 y gs W (hY.below (hW.mono hB)) (by have := hW.size; omega) (by have := hF.s9; omega) hF.sn hgs)
  have HC := Lib.hid (fun W (hW : Below w.heap.size w W) => ContainsW_any W.heap.size (some ⟨0, 0, none⟩) 3 3 goalsL gk W ((hT.kept hW).goals) (by unfold maxLen; decide))
  have HW1 := Lib.hid (fun W => pwhen_any (!goalB gk) 13 W)
  have HW2 := Lib.hid (fun W => pwhen_any (decide (secAtB y gs < 0)) 10 W)
  clear hY hT hF
  unfold goalE
  change Hid (∀ W, Below w.heap.size w W → Calls _ _ _ W _) at HC
  unfold goalB at *
  generalize yardE y = a1 at *
  generalize hasW goalsL gk = gq at *
  generalize whenE (!gq) 13 = a2 at *
  generalize whenE (decide (secAtB y gs < 0)) 10 = a3 at *
  generalize secAtB y gs = i at *
  go_enter Tryz.func81, Tryz.ntmps81
  go_wp2_with fail
  (refine wp_region_calm [] [0, 1, 2, 3, 4, 5, 6, 7, 8, 9, 10, 11, 12, 13] 3 (by kernel_rfl) rfl (by kernel_rfl) (by kernel_rfl) (by kernel_rfl) ?_; simp only [pickB, List.filterMap_cons, List.filterMap_nil, List.getElem?_toArray, List.getElem?_cons_zero, List.getElem?_cons_succ]; (repeat (first | ((first | (with_reducible refine quietL_plain rfl (fun K hK => ?_)) | (with_reducible refine quietL_want (by with_unfolding_all rfl) (fun K hK => ?_))); (apply Exists.intro; refine ⟨fun wx hx => ?_, ?_⟩; (· (have hcx := ifs_ex hx); simp [go_sem, *, ↓IntWalk.iteOmega] <;> (first | rfl | exact ⟨rfl, rfl⟩ | (have hbx := Ex.below hx; first | (with_reducible exact calls_B (calls_below (HW1.out _))) | (with_reducible exact calls_B (calls_below (HW2.out _))) | (with_reducible exact calls_B (H1.out _ bl_)) | (with_reducible exact calls_B (HS.out _ bl_)) | exact calls_B (calls_below (HC.out _ bl_))))); (simp only [Act.put, List.setIfInBounds_toArray, List.set_cons_zero, List.set_cons_succ]; refine hK _ ?_; clear hK K))) | ((with_reducible refine quietL_skip (by with_unfolding_all rfl) ?_); simp only [Act.put, List.setIfInBounds_toArray, List.set_cons_zero, List.set_cons_succ]))); refine quietL_nil ?_)
  (refine anyB_one (i := 14) (by kernel_rfl) rfl rfl ?_; intro w2 hb2 K hK; obtain ⟨hc2, hf2⟩ := ifs_of hb2; have hs2 := hb2.size; (try simp at hs2); go_wp2; refine ⟨xs_, ?_⟩)
  (refine anyB_one (i := 15) (by kernel_rfl) rfl rfl ?_; intro w3 hb3 K hK; obtain ⟨hc3, hf3⟩ := ifs_of hb3; have hs3 := hb3.size; (try simp at hs3); go_wp2_with fail; refine (pfirst_any (w2.heap.size + 1) _ 3 3 [a1, a2, a3] _ ((by simpa using Reads.new (size := 1) w2 (([a1, a2, a3]).map (.int .i64)).toArray 34 3 rfl : Reads (w2.alloc (.cells (([a1, a2, a3]).map (.int .i64)).toArray 34)) (w2.heap.size + 1) 1 (some ⟨w2.heap.size, 0, none⟩) 3 (([a1, a2, a3]).map (.int .i64))).below (hb3.mono (by simp))) (by unfold maxLen; decide)).mono ?_; rintro e w3' ⟨rfl, rfl⟩; go_wp2; refine ⟨xs_, ?_⟩)
  (refine anyB_one (i := 16) (by kernel_rfl) rfl rfl ?_; intro w4 hb4 K hK; obtain ⟨hc4, hf4⟩ := ifs_of hb4; have hs4 := hb4.size; (try simp at hs4); go_wp2; refine ⟨xs_, ?_⟩)
  (refine anyB_end (by kernel_rfl) ?_; intro w5 hb5; obtain ⟨hc5, hf5⟩ := ifs_of hb5; have hs5 := hb5.size; (try simp at hs5); simp only [Calm]; go_wp2_with fail)
  go_ret
  exact ⟨rfl, bl_⟩
end Go.Proofs.YtphlojgmfkgeiaaGreatDoor
/- Clones of lists of ints. -/
namespace Go.Proofs.YtphlojgmfkgeiaaGreatDoor
open Go.RowKit Go.Sort Go.Shelf
set_option linter.unusedSimpArgs false
set_option linter.unusedVariables false
attribute [local go_sem] cell_if frozen_if grow_cell
def CloneRes1 (w : World) (t n : Nat) (xs : List Value) (e : Ending) (w' : World) : Prop := ∃ v, e = .returned v ∧ w'.ownsRow w.heap.size t 1 v n xs ∧ Below w.heap.size w w'
set_option maxRecDepth 100000 in
theorem CloneI_any (B : Nat) (A : Option Addr) (n c : Nat) (xs : List Value) (w : World) (hr : Reads w B 1 A n xs) (hB : B ≤ w.heap.size) (h1 : ∀ u ∈ xs, u.oneCell' = true) (hn : n ≤ 1000) :
    Calls Tryz.prog 153 #[.slice A n c] w (CloneRes1 w 3 n xs) := by
  have q22 : ∀ (w : World) (a : Option Addr) (n c n' c' : Nat), (binOp .eql 29 (.slice a n c) (.slice none n' c')).run Tryz.prog w = .ok (.bool a.isNone) w := fun w a n c n' c' => Lib.run_eql_slice_nil w _ _ a n c n' c' Tryz.underlying29
  cases A with
  | none =>
    obtain rfl : n = 0 := by
      rcases Nat.eq_zero_or_pos n with h | h
      · exact h
      · obtain ⟨b, o, e, _⟩ := hr.2 h
        cases e
    obtain rfl : xs = [] := List.eq_nil_of_length_eq_zero (by rw [hr.1])
    clear hr h1
    go_enter Tryz.func153, Tryz.ntmps153
    go_wp2
    go_ret
    exact ⟨_, rfl, World.ownsRow_nil _ _ _ _, bl_⟩
  | some ad =>
    have hl := hr.1
    have hnews : Hid (∀ j u, xs[j]? = some u → (w.alloc (.cells #[] 3)).cell? (ad.add j) = some u) := fun j u hu => by
      have hj := (List.getElem?_eq_some_iff.1 hu).1
      obtain ⟨b, o, e, hb, hc⟩ := (hr.alloc hB (.cells #[] 3)).2 (by omega)
      cases e
      rw [Addr.add_lit]
      exact hc j u hu
    have H1 := Lib.hid h1
    have HL := Lib.hid hl
    clear hr h1 hl
    obtain ⟨ht, ⟨i, z, g1, g2, g3, g4, g5⟩, hp⟩ := elemInt
    have G1 := Lib.hid g1
    have G2 := Lib.hid g2
    have G3 := Lib.hid g3
    have G4 := Lib.hid g4
    have G5 := Lib.hid g5
    clear g1 g2 g3 g4 g5
    go_enter Tryz.func153, Tryz.ntmps153
    go_wp2_with (at_builtin; refine wpList_append_own (w.alloc (.cells #[] 3)) rfl (.tmp 5) (.tmp 6) 29 rfl w.heap.size 3 i z 1 8 ht G1.out G2.out G3.out G4.out G5.out hp _ 0 [] rfl (Own.new w w.heap.size 3 1 0 #[] (Nat.le_refl _) rfl (by decide)) ad n c xs rfl HL.out hnews.out H1.out (by unfold maxLen; omega) (by omega) (by simp) ?_)
    intro v' w' hO hg hnil
    have HO := Lib.hid hO
    have hb : Below w.heap.size w w' := ((Below.refl _ w).alloc (Nat.le_refl _) _).grown hg (by simp) (fun k hk => by simp [Value.ownBlock] at hk; omega)
    clear hO hg hnil
    obtain ⟨A', cap', rfl, _⟩ := own_form HO.out
    go_wp2
    go_ret
    exact ⟨_, rfl, HO.out, hb⟩
end Go.Proofs.YtphlojgmfkgeiaaGreatDoor
