/- Changes of the program. -/
import Derived.Test.YtfpjcnkfoehhmaaGreatDoorDE
import Derived.Test.YtfpjcnkfoehhmaaGreatDoorQh
import Derived.Test.YtfpjcnkfoehhmaaGreatDoorQm
namespace Go.Proofs.YtfpjcnkfoehhmaaGreatDoor
open Go.RowKit Go.Sort Go.Shelf
set_option linter.unusedSimpArgs false
set_option linter.unusedVariables false
attribute [local go_sem] cell_if frozen_if grow_cell
attribute [local go_sem] Oper.semAt_some
theorem us_mem {a : Ar} {j : Nat} (hj : j < a.m.length) : hasI (usL a) (j : Int) = !(a.m[j]).by_ := by
  cases hb : (a.m[j]).by_ with
  | false => exact (hasI_iff _ _).2 (mem_idxs.2 ⟨j, hj, by omega, by unfold usB; rw [hb]; rfl⟩)
  | true =>
    cases hh : hasI (usL a) (j : Int) with
    | false => rfl
    | true =>
      obtain ⟨i, hi, e, hu⟩ := mem_idxs.1 ((hasI_iff _ _).1 hh)
      have : j = i := by omega
      subst this
      unfold usB at hu
      rw [hb] at hu
      cases hu
theorem us_out {a : Ar} {z : Int} (h : z < 0 ∨ (a.m.length : Int) ≤ z) : hasI (usL a) z = false := by
  cases hh : hasI (usL a) z with
  | false => rfl
  | true =>
    obtain ⟨i, hi, e, _⟩ := mem_idxs.1 ((hasI_iff _ _).1 hh)
    omega
theorem setGo_at (a : Ar) (last : Int) {l : List Int} {k : Nat} (hk : k < l.length) : setGo a last (l.drop k) = if hasI (usL a) l[k] then (if l[k] ≤ last then 11 else setGo a l[k] (l.drop (k + 1))) else 10 := by
  rw [List.drop_eq_getElem_cons hk]
  rfl
set_option maxRecDepth 100000 in
set_option maxHeartbeats 4000000 in
theorem Changes_no (B B2 : Nat) (A A2 : Option Addr) (n c n2 c2 : Nat) (a : Ar) (set : List Int) (w : World) (hM : MsAt w B A n a.m) (hB : B ≤ w.heap.size) (hF : FitA a) (hnc : n ≤ c) (h2 : Reads w B2 1 A2 n2 (set.map (.int .i64))) (hB2 : B2 ≤ w.heap.size) (hn2 : n2 ≤ 1000) (h0 : chsE a set ≠ 0) :
    Calls Tryz.prog 45 #[.agg #[.slice A n c, .int .i64 a.lo, .int .i64 a.hi, .int .i64 a.cur, .int .i64 a.lim], .slice A2 n2 c2] w fun e w' => e = .returned (.tuple #[.int .i64 0, .int .i64 (chsE a set)]) ∧ Below w.heap.size w w' := by
  have hl := (md_at hM).1
  have h17 := hF.len
  have hsl : set.length = n2 := by simpa using h2.1
  have HC := Lib.hid (fun W (hW : Below w.heap.size w W) => CheckArm_any B A n c a W (hM.below (hW.mono hB)) (by have := hW.size; omega) hF hnc)
  obtain ⟨E1, hE1⟩ : ∃ E1, firstE [armE a, whenE (decide ((16 : Int) < (n2 : Int))) 5] = E1 := ⟨_, rfl⟩
  have HE1 := Lib.hid hE1
  have hchs : chsE a set = or0 E1 (setGo a (-1) set) := by unfold chsE; rw [hsl, hE1]
  have HMs := Lib.hid hM
  have HSs := Lib.hid h2
  have HChs := Lib.hid hchs
  clear hE1 hchs h2
  obtain ⟨er, her⟩ : ∃ er, chsE a set = er := ⟨_, rfl⟩
  have HEr := Lib.hid her
  have HNe := Lib.hid h0
  rw [her]
  clear her h0
  go_enter Tryz.func45, Tryz.ntmps45
  go_wp2_with fail
  refine wp_world ?_
  intro W0 hW0
  have hb0 : Below w.heap.size w W0 := by rw [hW0]; exact bl_
  have bA0 : Blk W0 w.heap.size 35 #[.slice A n c, .int .i64 a.lo, .int .i64 a.hi, .int .i64 a.cur, .int .i64 a.lim] := by rw [hW0]; exact bk_
  have bS0 : Blk W0 (w.heap.size + 1) 29 #[.slice A2 n2 c2] := by rw [hW0]; exact bk_
  have HC1 := Lib.hid (fun W (hW : Below W0.heap.size W0 W) => HC.out W (hb0.trans (hW.mono hb0.size)))
  have cA0 := bA0.cell
  have lA0 := bA0.lt
  have cS0 := bS0.cell
  have lS0 := bS0.lt
  clear hW0 hM
  (refine wp_region_calm [] [0, 1, 2, 3, 4, 5] 3 (by kernel_rfl) rfl (by kernel_rfl) (by kernel_rfl) (by kernel_rfl) ?_; simp only [pickB, List.filterMap_cons, List.filterMap_nil, List.getElem?_toArray, List.getElem?_cons_zero, List.getElem?_cons_succ]; (repeat (first | ((first | (with_reducible refine quietL_plain rfl (fun K hK => ?_)) | (with_reducible refine quietL_want (by with_unfolding_all rfl) (fun K hK => ?_))); (apply Exists.intro; refine ⟨fun wx hx => ?_, ?_⟩; (· (have hcx := ifs_ex hx); simp [go_sem, *, ↓IntWalk.iteOmega] <;> (first | rfl | exact ⟨rfl, rfl⟩ | (first | (with_reducible exact calls_B (HC1.out _ (Ex.low hx))) | (with_reducible exact calls_B (calls_below (awhen_any _ _ _)))))); (simp only [Act.put, List.setIfInBounds_toArray, List.set_cons_zero, List.set_cons_succ]; refine hK _ ?_; clear hK K))) | ((with_reducible refine quietL_skip (by with_unfolding_all rfl) ?_); simp only [Act.put, List.setIfInBounds_toArray, List.set_cons_zero, List.set_cons_succ]))); refine quietL_nil ?_)
  (refine anyB_one (i := 6) (by kernel_rfl) rfl rfl ?_; intro w2 hb2 K hK; have hs2 := hb2.size; (try simp at hs2); go_wp2; refine ⟨xs_, ?_⟩)
  (refine anyB_one (i := 7) (by kernel_rfl) rfl rfl ?_; intro w3 hb3 K hK; obtain ⟨hc3, hf3⟩ := ifs_of hb3; have hs3 := hb3.size; (try simp at hs3); go_wp2_with fail; refine (afirst_any (w2.heap.size + 1) _ 2 2 [armE a, whenE (decide ((16 : Int) < (n2 : Int))) 5] _ ((by simpa using Reads.new (size := 1) w2 (([armE a, whenE (decide ((16 : Int) < (n2 : Int))) 5]).map (.int .i64)).toArray 30 2 rfl : Reads (w2.alloc (.cells (([armE a, whenE (decide ((16 : Int) < (n2 : Int))) 5]).map (.int .i64)).toArray 30)) (w2.heap.size + 1) 1 (some ⟨w2.heap.size, 0, none⟩) 2 (([armE a, whenE (decide ((16 : Int) < (n2 : Int))) 5]).map (.int .i64))).below (hb3.mono (by simp))) (by unfold maxLen; decide)).mono ?_; rintro e w3' ⟨rfl, rfl⟩; go_wp2; refine ⟨xs_, ?_⟩)
  (refine anyB_one (i := 8) (by kernel_rfl) rfl rfl ?_; intro w4 hb4 K hK; have hs4 := hb4.size; (try simp at hs4); go_wp2; refine ⟨xs_, ?_⟩)
  (refine anyB_end (by kernel_rfl) ?_; intro w5 hb5; have hs5 := hb5.size; (try simp at hs5); simp only [Calm])
  have hb05 : Below W0.heap.size W0 w5 := bl_
  have bA5 := bA0.kept hb05
  have bS5 := bS0.kept hb05
  have HB5 := Lib.hid (hb0.trans (hb05.mono hb0.size))
  have hs5 := HB5.out.size
  clear cA0 lA0 cS0 lS0 bA0 bS0 hb05 hb0 HC1 HC hb2 hb3 hb4 hb5 hc3 hf3
  rw [HE1.out]
  have cA := bA5.cell
  have lA := bA5.lt
  have cS := bS5.cell
  have lS := bS5.lt
  by_cases h1 : E1 = 0
  · subst h1
    have HGo : Hid (setGo a (-1) set = er) := Lib.hid (by rw [← HEr.out, HChs.out]; rfl)
    clear HChs HE1
    go_wp2_with fail
    go_loopw [7, 26] (fun s7 s26 wr => ∃ (k : Nat) (last : Int), k ≤ n2 ∧ s26 = .int .i64 (k : Int) ∧ s7 = .int .i64 last ∧ setGo a (-1) set = setGo a last (set.drop k) ∧ Below w5.heap.size w5 wr) (fun _ s26 _ => n2 - (intOf s26).toNat)
    case atStart => exact ⟨0, -1, by omega, rfl, rfl, rfl, Below.refl _ _⟩
    case round =>
      obtain ⟨k, last, hk, rfl, rfl, hgo, hb⟩ := hrel
      have HG := Lib.hid hgo
      have HBw := Lib.hid (HB5.out.trans (hb.mono hs5))
      have bA := bA5.kept hb
      have hsr := hb.size
      have HB := Lib.hid hb
      clear hgo cA lA cS lS
      have cA := bA.cell
      have lA := bA.lt
      by_cases hlt : k < n2
      · have hkl : k < set.length := by omega
        obtain ⟨_, hat⟩ := int_at (HSs.out.below (HBw.out.mono hB2))
        obtain ⟨bs, os, es, hbs, z0⟩ := hat k hkl
        have hbsw : bs < wr.heap.size := by have := HBw.out.size; omega
        have HD := Lib.hid (setGo_at a last hkl)
        clear hat hb
        generalize set[k] = z at *
        subst es
        by_cases hz0 : z < 0
        · have HE : Hid (er = 10) := Lib.hid (by rw [← HGo.out, HG.out, HD.out, us_out (.inl hz0)]; rfl)
          clear HD
          go_wp2_with fail
          go_ret2
          exact ⟨by rw [HE.out]; rfl, HBw.out⟩
        · by_cases hzn : (n : Int) ≤ z
          · have HE : Hid (er = 10) := Lib.hid (by rw [← HGo.out, HG.out, HD.out, us_out (.inr (by rw [hl]; exact hzn))]; rfl)
            clear HD
            go_wp2_with fail
            go_ret2
            exact ⟨by rw [HE.out]; rfl, HBw.out⟩
          · obtain ⟨j, rfl⟩ := Int.eq_ofNat_of_zero_le (show 0 ≤ z by omega)
            have hjn : j < n := by omega
            have hjl : j < a.m.length := by omega
            obtain ⟨_, hatM⟩ := md_at (HMs.out.below (HBw.out.mono hB))
            obtain ⟨bm, om, em, hbm, x0, x1, x2, x3⟩ := hatM j hjl
            clear x0 x1 x2
            have hbmw : bm < wr.heap.size := by have := HBw.out.size; omega
            have HU := Lib.hid (us_mem hjl)
            clear hatM
            generalize a.m[j] = x at *
            obtain ⟨xn, xq, xo, xb⟩ := x
            dsimp only at x3 HU
            subst em
            cases xb with
            | true =>
              have HE : Hid (er = 10) := Lib.hid (by rw [← HGo.out, HG.out, HD.out, HU.out]; rfl)
              clear HD HU
              go_wp2_with fail
              go_ret2
              exact ⟨by rw [HE.out]; rfl, HBw.out⟩
            | false =>
              by_cases hle : (j : Int) ≤ last
              · have HE : Hid (er = 11) := Lib.hid (by rw [← HGo.out, HG.out, HD.out, HU.out, if_pos hle]; rfl)
                clear HD HU
                go_wp2_with fail
                go_ret2
                exact ⟨by rw [HE.out]; rfl, HBw.out⟩
              · have HN : Hid (setGo a (-1) set = setGo a (j : Int) (set.drop (k + 1))) := Lib.hid (by rw [HG.out, HD.out, HU.out, if_neg hle]; rfl)
                clear HD HU HG
                go_wp2_with fail
                go_roundw
                case rel => exact ⟨k + 1, (j : Int), by omega, by go_num, rfl, HN.out, HB.out⟩
                case measure => simp [intOf]; omega
      · exfalso
        have e := HG.out
        rw [List.drop_eq_nil_of_le (by omega), HGo.out] at e
        exact HNe.out (HEr.out.trans e)
  · have hne : (E1 != 0) = true := by simpa using h1
    have HE : Hid (er = E1) := Lib.hid (by rw [← HEr.out, HChs.out, or0_no h1])
    clear HChs HE1
    go_wp2_with fail
    go_ret2
    exact ⟨by rw [HE.out]; rfl, HB5.out⟩
/-- The count, as the modules come. -/
def cntU (set : List Int) (l : List Md) (pre : List (Us l)) : Nat := (pre.filter fun x => x.m.on != hasI set (x.k : Int)).length
theorem cntU_snoc (set : List Int) (l : List Md) (pre : List (Us l)) (x : Us l) : cntU set l (pre ++ [x]) = cntU set l pre + (if x.m.on != hasI set (x.k : Int) then 1 else 0) := by
  unfold cntU
  rw [List.filter_append, List.length_append]
  congr 1
  rw [List.filter_cons]
  cases x.m.on != hasI set (x.k : Int) <;> rfl
theorem cntU_le (set : List Int) (l : List Md) (pre : List (Us l)) : cntU set l pre ≤ pre.length := List.length_filter_le _ _
theorem cntX_snoc (set : List Int) (x : Md) : ∀ (l : List Md) (k : Nat), cntX set k (l ++ [x]) = cntX set k l + (if !x.by_ && (x.on != hasI set ((k + l.length : Nat) : Int)) then 1 else 0)
  | [], k => by
    show (if !x.by_ && (x.on != hasI set (k : Int)) then 1 else 0) + 0 = 0 + _
    rw [Nat.zero_add, Nat.add_zero]
    rfl
  | z :: r, k => by
    have ih := cntX_snoc set x r (k + 1)
    show _ + cntX set (k + 1) (r ++ [x]) = (_ + cntX set (k + 1) r) + _
    rw [ih, List.length_cons, show k + 1 + r.length = k + (r.length + 1) by omega, Nat.add_assoc]
theorem cntU_all (set : List Int) {l : List Md} : ∀ k, k ≤ l.length → cntU set l (uTo l k) = cntX set 0 (l.take k)
  | 0, _ => by rw [List.take_zero]; rfl
  | k + 1, h => by
    have hk : k < l.length := by omega
    have ih := cntU_all set (l := l) k (by omega)
    rw [show uTo l (k + 1) = uTo l k ++ oneU l k from rfl, List.take_succ_eq_append_getElem hk, cntX_snoc, List.length_take, Nat.min_eq_left (by omega), Nat.zero_add]
    cases hb : (l[k]).by_ with
    | false =>
      rw [oneU_yes hk hb, cntU_snoc, ih]
      rfl
    | true =>
      rw [oneU_no hk hb, List.append_nil, ih]
      rfl
/-- Between two modules. -/
structure CgI (w : World) (b : Nat) (A2 : Option Addr) (n2 c2 : Nat) (set : List Int) (l : List Md) (pre : List (Us l)) (W : World) : Prop where
  s : Blk W (w.heap.size + 1) 29 #[.slice A2 n2 c2]
  o : Blk W b 3 #[.int .i64 (cntU set l pre : Int)]
  low : Below w.heap.size w W
  le : b + 1 + 1 ≤ W.heap.size
theorem CgI.grown {w : World} {b : Nat} {A2 : Option Addr} {n2 c2 : Nat} {set : List Int} {l : List Md} {pre : List (Us l)} {U V : World} {row : Option Nat} (hs : CgI w b A2 n2 c2 set l pre U) (hb : w.heap.size + 1 < b) (hg : U.grownBy V row) (hr : ∀ r, row = some r → b + 1 + 1 ≤ r ∧ ∀ t c, ¬ Blk U r t c) : CgI w b A2 n2 c2 set l pre V := by
  have hk : ∀ {k t cs}, Blk U k t cs → Blk V k t cs := fun h => (hg.block _ h.lt (fun e => (hr _ e.symm).2 _ _ h)).trans h
  exact ⟨hk hs.s, hk hs.o, hs.low.grown hg (by have := hs.le; omega) (fun j hj => by have := (hr j hj).1; omega), Nat.le_trans hs.le hg.size⟩
set_option maxRecDepth 100000 in
set_option maxHeartbeats 4000000 in
theorem Changes_ok (B B2 : Nat) (A A2 : Option Addr) (n c n2 c2 : Nat) (a : Ar) (set : List Int) (w : World) (hM : MsAt w B A n a.m) (hB : B ≤ w.heap.size) (hF : FitA a) (hnc : n ≤ c) (h2 : Reads w B2 1 A2 n2 (set.map (.int .i64))) (hB2 : B2 ≤ w.heap.size) (hn2 : n2 ≤ 1000) (h0 : chsE a set = 0) :
    Calls Tryz.prog 45 #[.agg #[.slice A n c, .int .i64 a.lo, .int .i64 a.hi, .int .i64 a.cur, .int .i64 a.lim], .slice A2 n2 c2] w fun e w' => e = .returned (.tuple #[.int .i64 (cntX set 0 a.m : Int), .int .i64 0]) ∧ Below w.heap.size w w' := by
  have hl := (md_at hM).1
  have h17 := hF.len
  have hsl : set.length = n2 := by simpa using h2.1
  have HC := Lib.hid (fun W (hW : Below w.heap.size w W) => CheckArm_any B A n c a W (hM.below (hW.mono hB)) (by have := hW.size; omega) hF hnc)
  obtain ⟨E1, hE1⟩ : ∃ E1, firstE [armE a, whenE (decide ((16 : Int) < (n2 : Int))) 5] = E1 := ⟨_, rfl⟩
  have HE1 := Lib.hid hE1
  have hchs : chsE a set = or0 E1 (setGo a (-1) set) := by unfold chsE; rw [hsl, hE1]
  have HMs := Lib.hid hM
  have HSs := Lib.hid h2
  have HChs := Lib.hid hchs
  clear hE1 hchs h2
  have h00 := HChs.out.symm.trans h0
  obtain ⟨e1, e2⟩ := or0_zero h00
  subst e1
  have hE : armE a = 0 := by
    have := HE1.out
    rw [firstE_cons] at this
    exact (or0_zero this).1
  have HGo := Lib.hid e2
  have HFit := Lib.hid (fit_of hE)
  clear h00 e2 h0 hE HChs
  refine (callsIn_wide (n := 9)).1 ?_
  refine callsIn_of_wp_marks Tryz.func45 rfl trivial ?_ rfl
  refine wpIn_wide.2 ?_
  simp only [Tryz.ntmps45, List.size_toArray, List.length_cons, List.length_nil, Nat.reduceAdd, Nat.reduceSub, Array.replicate_succ, Array.replicate_zero, List.push_toArray, List.append_toArray, List.nil_append, List.cons_append]
  go_wp2_with fail
  have hM := HMs.out
  refine wp_world ?_
  intro W0 hW0
  have hb0 : Below w.heap.size w W0 := by rw [hW0]; exact bl_
  have bA0 : Blk W0 w.heap.size 35 #[.slice A n c, .int .i64 a.lo, .int .i64 a.hi, .int .i64 a.cur, .int .i64 a.lim] := by rw [hW0]; exact bk_
  have bS0 : Blk W0 (w.heap.size + 1) 29 #[.slice A2 n2 c2] := by rw [hW0]; exact bk_
  have HC1 := Lib.hid (fun W (hW : Below W0.heap.size W0 W) => HC.out W (hb0.trans (hW.mono hb0.size)))
  have cA0 := bA0.cell
  have lA0 := bA0.lt
  have cS0 := bS0.cell
  have lS0 := bS0.lt
  clear hW0 hM
  (refine wp_region_calm [] [0, 1, 2, 3, 4, 5] 3 (by kernel_rfl) rfl (by kernel_rfl) (by kernel_rfl) (by kernel_rfl) ?_; simp only [pickB, List.filterMap_cons, List.filterMap_nil, List.getElem?_toArray, List.getElem?_cons_zero, List.getElem?_cons_succ]; (repeat (first | ((first | (with_reducible refine quietL_plain rfl (fun K hK => ?_)) | (with_reducible refine quietL_want (by with_unfolding_all rfl) (fun K hK => ?_))); (apply Exists.intro; refine ⟨fun wx hx => ?_, ?_⟩; (· (have hcx := ifs_ex hx); simp [go_sem, *, ↓IntWalk.iteOmega] <;> (first | rfl | exact ⟨rfl, rfl⟩ | (first | (with_reducible exact calls_B (HC1.out _ (Ex.low hx))) | (with_reducible exact calls_B (calls_below (awhen_any _ _ _)))))); (simp only [Act.put, List.setIfInBounds_toArray, List.set_cons_zero, List.set_cons_succ]; refine hK _ ?_; clear hK K))) | ((with_reducible refine quietL_skip (by with_unfolding_all rfl) ?_); simp only [Act.put, List.setIfInBounds_toArray, List.set_cons_zero, List.set_cons_succ]))); refine quietL_nil ?_)
  (refine anyB_one (i := 6) (by kernel_rfl) rfl rfl ?_; intro w2 hb2 K hK; have hs2 := hb2.size; (try simp at hs2); go_wp2; refine ⟨xs_, ?_⟩)
  (refine anyB_one (i := 7) (by kernel_rfl) rfl rfl ?_; intro w3 hb3 K hK; obtain ⟨hc3, hf3⟩ := ifs_of hb3; have hs3 := hb3.size; (try simp at hs3); go_wp2_with fail; refine (afirst_any (w2.heap.size + 1) _ 2 2 [armE a, whenE (decide ((16 : Int) < (n2 : Int))) 5] _ ((by simpa using Reads.new (size := 1) w2 (([armE a, whenE (decide ((16 : Int) < (n2 : Int))) 5]).map (.int .i64)).toArray 30 2 rfl : Reads (w2.alloc (.cells (([armE a, whenE (decide ((16 : Int) < (n2 : Int))) 5]).map (.int .i64)).toArray 30)) (w2.heap.size + 1) 1 (some ⟨w2.heap.size, 0, none⟩) 2 (([armE a, whenE (decide ((16 : Int) < (n2 : Int))) 5]).map (.int .i64))).below (hb3.mono (by simp))) (by unfold maxLen; decide)).mono ?_; rintro e w3' ⟨rfl, rfl⟩; go_wp2; refine ⟨xs_, ?_⟩)
  (refine anyB_one (i := 8) (by kernel_rfl) rfl rfl ?_; intro w4 hb4 K hK; have hs4 := hb4.size; (try simp at hs4); go_wp2; refine ⟨xs_, ?_⟩)
  (refine anyB_end (by kernel_rfl) ?_; intro w5 hb5; have hs5 := hb5.size; (try simp at hs5); simp only [Calm])
  have hb05 : Below W0.heap.size W0 w5 := bl_
  have bA5 := bA0.kept hb05
  have bS5 := bS0.kept hb05
  have HB5 := Lib.hid (hb0.trans (hb05.mono hb0.size))
  have hs5 := HB5.out.size
  clear cA0 lA0 cS0 lS0 bA0 bS0 hb05 hb0 HC1 HC hb2 hb3 hb4 hb5 hc3 hf3
  rw [HE1.out]
  have cA := bA5.cell
  have lA := bA5.lt
  have cS := bS5.cell
  have lS := bS5.lt
  clear HE1
  go_wp2_with fail
  go_loopw [7, 26] (fun s7 s26 wr => ∃ (k : Nat) (last : Int), k ≤ n2 ∧ s26 = .int .i64 (k : Int) ∧ s7 = .int .i64 last ∧ setGo a last (set.drop k) = 0 ∧ Below w5.heap.size w5 wr) (fun _ s26 _ => n2 - (intOf s26).toNat)
  case atStart => exact ⟨0, -1, by omega, rfl, rfl, HGo.out, Below.refl _ _⟩
  case round =>
    obtain ⟨k, last, hk, rfl, rfl, hgo, hb⟩ := hrel
    have HG := Lib.hid hgo
    have HBw := Lib.hid (HB5.out.trans (hb.mono hs5))
    have bA := bA5.kept hb
    have bS := bS5.kept hb
    have hsr := hb.size
    have HB := Lib.hid hb
    clear hgo cA lA cS lS
    have cA := bA.cell
    have lA := bA.lt
    by_cases hlt : k < n2
    · have hkl : k < set.length := by omega
      obtain ⟨_, hat⟩ := int_at (HSs.out.below (HBw.out.mono hB2))
      obtain ⟨bs, os, es, hbs, z0⟩ := hat k hkl
      have hbsw : bs < wr.heap.size := by have := HBw.out.size; omega
      have HD := Lib.hid (setGo_at a last hkl)
      clear hat hb
      generalize set[k] = z at *
      subst es
      have hin : hasI (usL a) z = true := by
        cases hh : hasI (usL a) z with
        | true => rfl
        | false =>
          have := HG.out
          rw [HD.out, hh, if_neg (by decide)] at this
          cases this
      obtain ⟨j, hjl, ej, hu⟩ := mem_idxs.1 ((hasI_iff _ _).1 hin)
      obtain rfl : z = (j : Int) := by omega
      have hgo := HG.out
      rw [HD.out, hin, if_pos rfl] at hgo
      have hle : ¬ (j : Int) ≤ last := fun h => by
        rw [if_pos h] at hgo
        cases hgo
      rw [if_neg hle] at hgo
      have HN := Lib.hid hgo
      have hjn : j < n := by omega
      obtain ⟨_, hatM⟩ := md_at (HMs.out.below (HBw.out.mono hB))
      obtain ⟨bm, om, em, hbm, x0, x1, x2, x3⟩ := hatM j hjl
      clear x0 x1 x2
      have hbmw : bm < wr.heap.size := by have := HBw.out.size; omega
      have hby : (a.m[j]).by_ = false := by simpa [usB] using hu
      rw [hby] at x3
      clear hatM hgo hin hu hby ej HD HG
      subst em
      go_wp2_with fail
      go_roundw
      case rel => exact ⟨k + 1, (j : Int), by omega, by go_num, rfl, HN.out, HB.out⟩
      case measure => simp [intOf]; omega
    · obtain rfl : k = n2 := by omega
      clear hlt hk HG
      go_wp2_with fail
      refine (usable_any _ _ _ _ _).mono ?_
      rintro e wb ⟨rfl, hwb⟩
      have hbw1 : Below wr.heap.size wr wb := by rw [← hwb]; exact bl_
      have hbw : Below w.heap.size w wb := HBw.out.trans (hbw1.mono (by have := HBw.out.size; omega))
      have b2 : Blk wb wr.heap.size 3 #[.int .i64 0] := by rw [← hwb]; exact bk_
      have b3 : Blk wb (wr.heap.size + 1) 35 #[.slice A n c, .int .i64 a.lo, .int .i64 a.hi, .int .i64 a.cur, .int .i64 a.lim] := by rw [← hwb]; exact bk_
      have hsb : wb.heap.size = wr.heap.size + 1 + 1 := by rw [← hwb]; simp
      have hR0 := HMs.out.below (hbw.mono hB)
      have hswr := HBw.out.size
      have hb1w : w.heap.size + 1 < wr.heap.size := bS.lt
      have HM0 : Hid (CgI w wr.heap.size A2 k c2 set a.m [] wb) := Lib.hid ⟨bS.kept hbw1, b2, hbw, by omega⟩
      clear hwb hbw1 cA lA bA
      simp only [World.size_alloc]
      go_wp2_with fail
      refine (wpIn_wide (n := 9)).1 ?_
      refine wpIn_rangeFunc_ownH rfl (by omega) (gf := 134) (lb := #[.pointer (some ⟨wr.heap.size + 1, 0, none⟩)]) rfl trivial (enters_of Tryz.func134 (by kernel_rfl) rfl)
        (us_stops 8 (wr.heap.size + 1) B A n c a wb (by omega) hR0 (by omega) (by omega) b3) KpU.t (KpU.b (by omega) (by omega)) (Below.refl _ _) (fun _ => rfl)
        (fun pre W => CgI w wr.heap.size A2 k c2 set a.m pre W)
        (fun _ _ _ => False)
        ?own (fun _ _ _ _ _ hs _ _ => hs) ?start
        (fun x a' W => ∃ q, a' = { tmps := #[.agg #[.slice A n c, .int .i64 a.lo, .int .i64 a.hi, .int .i64 a.cur, .int .i64 a.lim], .slice A2 k c2, .pointer (some ⟨w.heap.size, 0, none⟩), .pointer (some ⟨w.heap.size + 1, 0, none⟩), u4, u5, .int .i64 0, .int .i64 last, undef, u9, .pointer (some ⟨wr.heap.size, 0, none⟩), .int .i64 (x.k : Int), .pointer (some ⟨q, 0, none⟩), .agg #[.slice A n c, .int .i64 a.lo, .int .i64 a.hi, .int .i64 a.cur, .int .i64 a.lim], .int .i64 (armE a), .slice A2 k c2, .int .i64 (k : Int), .bool (decide ((16 : Int) < (k : Int))), .int .i64 (whenE (decide ((16 : Int) < (k : Int))) 5), .slice (some ⟨w2.heap.size, 0, none⟩) 2 2, .int .i64 0, .int .i64 0, .bool false, undef, .slice A2 k c2, .int .i64 (k : Int), .int .i64 (k : Int), .bool false, u28, u29, u30, u31, u32, u33, u34, u35, u36, u37, u38, u39, u40, u41, u42, u43, u44, u45, u46, u47, u48, u49, u50, u51, .agg #[.slice A n c, .int .i64 a.lo, .int .i64 a.hi, .int .i64 a.cur, .int .i64 a.lim], .func (.func 134) #[] #[.pointer (some ⟨wr.heap.size + 1, 0, none⟩)], .int .i64 (x.k : Int), .agg #[.string x.m.n, .int .i64 x.m.q, .bool x.m.on, .bool x.m.by_], undef, undef, undef, undef, undef, undef, undef, undef, undef], defers := [] } ∧ wb.heap.size ≤ q ∧ Blk W q 73 #[.string x.m.n, .int .i64 x.m.q, .bool x.m.on, .bool x.m.by_]) ?ownA ?assign ?body ?done ?stop
      case own =>
        exact fun pre U V row hs hg hr => hs.grown (by omega) hg fun r e => ⟨by have := (hr r e).1; omega, no_blk (hr r e).2⟩
      case start => exact HM0.out
      case ownA =>
        rintro x a' _ U V row ⟨q, e, hq, hb⟩ hg hr
        refine ⟨q, e, hq, (hg.block q hb.lt (fun e => ?_)).trans hb⟩
        obtain ⟨_, o, ho, hc⟩ := hr q e.symm
        rw [show U.heap[q]? = _ from hb] at ho
        cases ho
        cases hc
      case assign =>
        rintro l' pre z W K hI hK
        dsimp only [usV]
        gi_wp2
        have hIn : W.grownBy (W.alloc (.cells #[.string z.m.n, .int .i64 z.m.q, .bool z.m.on, .bool z.m.by_] 73)) none := World.grownBy_alloc W _ none
        have hle := hI.le
        refine hK _ _ (KeepsFrom.of_grownBy hIn (fun _ e => by cases e)) (KpU.of (by omega) (by omega) bl_) (hI.grown (by omega) hIn (fun _ e => by cases e)) ⟨W.heap.size, rfl, by omega, Blk.new _ _ _⟩
      case body =>
        rintro l' pre z a' W hl' ⟨r, hr⟩ hI ⟨q, rfl, hq, hbq⟩ hlp
        obtain ⟨hs3, ho, hlow, hle⟩ := hI
        have HS := Lib.hid (cntU_snoc set a.m pre z)
        have hcl := cntU_le set a.m pre
        have cQ := hbq.cell
        have lQ := hbq.lt
        have cO := ho.cell 0
        simp at cO
        have fO := ho.frozen 0
        have lO := ho.lt
        have cS := hs3.cell 0
        simp at cS
        have lS := hs3.lt
        have HO1 := Lib.hid ho
        have HS1 := Lib.hid hs3
        have HLow := Lib.hid hlow
        have HQ1 := Lib.hid hbq
        have HHc := Lib.hid (fun (x : Int) W' (hb : Below w.heap.size w W') => ContainsI_any B2 A2 k c2 set x W' (HSs.out.below (hb.mono hB2)) (by unfold maxLen; omega))
        have mixed : Tryz.prog.follows .mixedOrders = true := by kernel_rfl
        clear hr hR0 b2 b3 hs3 ho hlow hbq
        generalize z.m = x at *
        generalize z.k = zk at *
        obtain ⟨xn, xq, xo, xb⟩ := x
        dsimp only at HS cQ HQ1
        have HC1 := Lib.hid (HHc.out (zk : Int))
        obtain ⟨hh, hhe⟩ : ∃ hh, hasI set (zk : Int) = hh := ⟨_, rfl⟩
        rw [hhe] at HS HC1
        clear HHc hhe
        generalize cntU set a.m pre = cn at *
        have ha : IntKind.i64.wrap ((cn : Int) + 1) = (cn : Int) + 1 := by rw [IntKind.wrap_i64]; omega
        have e5 : ∀ (V : World) (p : Addr) (u : Value), (V.setCell p u).heap.size = V.heap.size := fun V p u => by simp [World.setCell]
        have HE5 := Lib.hid e5
        clear e5
        cases xo <;> cases hh
        · skip
          gi_wp2
          gi_region_with_o (refine ⟨trivial, ?_⟩; refine (CallsIn.inRound l' (callsIn_wide.2 (calls_below (HC1.out W.drew ⟨HLow.out.os, HLow.out.tape, HLow.out.output, HLow.out.size, fun k hk => HLow.out.block k hk⟩)))).mono ?_; rintro e w3 ⟨rfl, hb3⟩; have hs3 := hb3.size; have HO3 := HO1.out.drew.kept hb3; have cO3 := HO3.cell 0; simp at cO3; have fO3 := HO3.frozen 0; have lO3 := HO3.lt; have cQ3 := (HQ1.out.drew.kept hb3).cell; have lQ3 := (HQ1.out.drew.kept hb3).lt; have cS3 := (HS1.out.drew.kept hb3).cell 0; simp at cS3; have lS3 := (HS1.out.drew.kept hb3).lt)
          all_goals
            gi_wp2
            have hbW : Below W.heap.size W w3 := ⟨hb3.os.trans rfl, hb3.tape.trans rfl, hb3.output.trans rfl, hb3.size, fun k hk => (hb3.block k hk).trans rfl⟩
            have hsW := hbW.size
            refine ⟨KeepsFrom.of_grownBy (grown_of_below hbW) (fun _ e => by cases e), ⟨hbW.mono (by omega), hbW.block _ (by omega)⟩, ⟨HS1.out.kept hbW, ?_, HLow.out.trans (hbW.mono (by omega)), by omega⟩⟩
            rw [HS.out]
            exact HO3
        · skip
          gi_wp2
          gi_region_with_o (refine ⟨trivial, ?_⟩; refine (CallsIn.inRound l' (callsIn_wide.2 (calls_below (HC1.out W.drew ⟨HLow.out.os, HLow.out.tape, HLow.out.output, HLow.out.size, fun k hk => HLow.out.block k hk⟩)))).mono ?_; rintro e w3 ⟨rfl, hb3⟩; have hs3 := hb3.size; have HO3 := HO1.out.drew.kept hb3; have cO3 := HO3.cell 0; simp at cO3; have fO3 := HO3.frozen 0; have lO3 := HO3.lt; have cQ3 := (HQ1.out.drew.kept hb3).cell; have lQ3 := (HQ1.out.drew.kept hb3).lt; have cS3 := (HS1.out.drew.kept hb3).cell 0; simp at cS3; have lS3 := (HS1.out.drew.kept hb3).lt)
          all_goals
            gi_wp2
            have hbW : Below W.heap.size W w3 := ⟨hb3.os.trans rfl, hb3.tape.trans rfl, hb3.output.trans rfl, hb3.size, fun k hk => (hb3.block k hk).trans rfl⟩
            have hsW := hbW.size
            refine ⟨(KeepsFrom.of_grownBy (grown_of_below hbW) (fun _ e => by cases e)).trans ((KeepsOthers.setCell _ _ _).from _), ⟨(hbW.mono (by omega)).setCell (p := ⟨wr.heap.size, 0, none⟩) (by show B ≤ wr.heap.size; omega) _, ?_⟩, ⟨(HS1.out.kept hbW).far (p := ⟨wr.heap.size, 0, none⟩) (show w.heap.size + 1 ≠ wr.heap.size by omega) _, ?_, (HLow.out.trans (hbW.mono (by omega))).setCell (p := ⟨wr.heap.size, 0, none⟩) (by show w.heap.size ≤ wr.heap.size; omega) _, ?_⟩⟩
            · rw [Below.heap_setCell _ _ _ _ (show wr.heap.size + 1 ≠ wr.heap.size by omega)]
              exact hbW.block _ (by omega)
            · rw [HS.out]
              exact HO3.set_ 0 _
            · rw [HE5.out]
              omega
        · skip
          gi_wp2
          gi_region_with_o (refine ⟨trivial, ?_⟩; refine (CallsIn.inRound l' (callsIn_wide.2 (calls_below (HC1.out W.drew ⟨HLow.out.os, HLow.out.tape, HLow.out.output, HLow.out.size, fun k hk => HLow.out.block k hk⟩)))).mono ?_; rintro e w3 ⟨rfl, hb3⟩; have hs3 := hb3.size; have HO3 := HO1.out.drew.kept hb3; have cO3 := HO3.cell 0; simp at cO3; have fO3 := HO3.frozen 0; have lO3 := HO3.lt; have cQ3 := (HQ1.out.drew.kept hb3).cell; have lQ3 := (HQ1.out.drew.kept hb3).lt; have cS3 := (HS1.out.drew.kept hb3).cell 0; simp at cS3; have lS3 := (HS1.out.drew.kept hb3).lt)
          all_goals
            gi_wp2
            have hbW : Below W.heap.size W w3 := ⟨hb3.os.trans rfl, hb3.tape.trans rfl, hb3.output.trans rfl, hb3.size, fun k hk => (hb3.block k hk).trans rfl⟩
            have hsW := hbW.size
            refine ⟨(KeepsFrom.of_grownBy (grown_of_below hbW) (fun _ e => by cases e)).trans ((KeepsOthers.setCell _ _ _).from _), ⟨(hbW.mono (by omega)).setCell (p := ⟨wr.heap.size, 0, none⟩) (by show B ≤ wr.heap.size; omega) _, ?_⟩, ⟨(HS1.out.kept hbW).far (p := ⟨wr.heap.size, 0, none⟩) (show w.heap.size + 1 ≠ wr.heap.size by omega) _, ?_, (HLow.out.trans (hbW.mono (by omega))).setCell (p := ⟨wr.heap.size, 0, none⟩) (by show w.heap.size ≤ wr.heap.size; omega) _, ?_⟩⟩
            · rw [Below.heap_setCell _ _ _ _ (show wr.heap.size + 1 ≠ wr.heap.size by omega)]
              exact hbW.block _ (by omega)
            · rw [HS.out]
              exact HO3.set_ 0 _
            · rw [HE5.out]
              omega
        · skip
          gi_wp2
          gi_region_with_o (refine ⟨trivial, ?_⟩; refine (CallsIn.inRound l' (callsIn_wide.2 (calls_below (HC1.out W.drew ⟨HLow.out.os, HLow.out.tape, HLow.out.output, HLow.out.size, fun k hk => HLow.out.block k hk⟩)))).mono ?_; rintro e w3 ⟨rfl, hb3⟩; have hs3 := hb3.size; have HO3 := HO1.out.drew.kept hb3; have cO3 := HO3.cell 0; simp at cO3; have fO3 := HO3.frozen 0; have lO3 := HO3.lt; have cQ3 := (HQ1.out.drew.kept hb3).cell; have lQ3 := (HQ1.out.drew.kept hb3).lt; have cS3 := (HS1.out.drew.kept hb3).cell 0; simp at cS3; have lS3 := (HS1.out.drew.kept hb3).lt)
          all_goals
            gi_wp2
            have hbW : Below W.heap.size W w3 := ⟨hb3.os.trans rfl, hb3.tape.trans rfl, hb3.output.trans rfl, hb3.size, fun k hk => (hb3.block k hk).trans rfl⟩
            have hsW := hbW.size
            refine ⟨KeepsFrom.of_grownBy (grown_of_below hbW) (fun _ e => by cases e), ⟨hbW.mono (by omega), hbW.block _ (by omega)⟩, ⟨HS1.out.kept hbW, ?_, HLow.out.trans (hbW.mono (by omega)), by omega⟩⟩
            rw [HS.out]
            exact HO3
      case done =>
        rintro D ys W hD rfl ⟨hs3, ho, hlow, hle⟩ hK
        have e := cntU_all set (l := a.m) n (by omega)
        rw [List.take_of_length_le (by omega)] at e
        rw [e] at ho
        have cO := ho.cell 0
        simp at cO
        have lO := ho.lt
        have HK := Lib.hid hK
        have HD := Lib.hid hD
        have HLow := Lib.hid hlow
        clear hK hD hlow ho hR0 b2 b3 e hs3
        go_wp2
        refine leaves_marks w.heap.size [D] W (by simp) (fun E hE => by simp at hE; subst hE; exact HK.out) (fun E hE => by simp at hE; subst hE; have := HD.out; omega) fun w' hw' hkk hs => ?_
        refine ⟨.tuple #[.int .i64 (cntX set 0 a.m : Int), .int .i64 0], by first | rfl | (simp [results, Tryz.results45, go_sem]; done), rfl, HLow.out.trans hw'⟩
      case stop =>
        rintro D c pre W _ _ hf _
        exact hf.elim
theorem Changes_any (B B2 : Nat) (A A2 : Option Addr) (n c n2 c2 : Nat) (a : Ar) (set : List Int) (w : World) (hM : MsAt w B A n a.m) (hB : B ≤ w.heap.size) (hF : FitA a) (hnc : n ≤ c) (h2 : Reads w B2 1 A2 n2 (set.map (.int .i64))) (hB2 : B2 ≤ w.heap.size) (hn2 : n2 ≤ 1000) :
    Calls Tryz.prog 45 #[.agg #[.slice A n c, .int .i64 a.lo, .int .i64 a.hi, .int .i64 a.cur, .int .i64 a.lim], .slice A2 n2 c2] w fun e w' => e = .returned (.tuple #[.int .i64 (chsV a set), .int .i64 (chsE a set)]) ∧ Below w.heap.size w w' := by
  by_cases h0 : chsE a set = 0
  · unfold chsV
    rw [if_pos h0, h0]
    exact Changes_ok B B2 A A2 n c n2 c2 a set w hM hB hF hnc h2 hB2 hn2 h0
  · unfold chsV
    rw [if_neg h0]
    exact Changes_no B B2 A A2 n c n2 c2 a set w hM hB hF hnc h2 hB2 hn2 h0
end Go.Proofs.YtfpjcnkfoehhmaaGreatDoor
