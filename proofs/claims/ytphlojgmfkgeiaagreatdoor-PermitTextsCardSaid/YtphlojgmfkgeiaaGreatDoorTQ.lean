/- Reference: Parse. -/
import Derived.Test.YtphlojgmfkgeiaaGreatDoorTR
import Derived.Test.YtphlojgmfkgeiaaGreatDoorTG
import Derived.Test.YtphlojgmfkgeiaaGreatDoorWV
import Derived.Test.YtphlojgmfkgeiaaGreatDoorKo
import Derived.Test.YtphlojgmfkgeiaaGreatDoorKm
namespace Go.Proofs.YtphlojgmfkgeiaaGreatDoor
open Go.RowKit Go.Sort Go.Shelf
set_option linter.unusedSimpArgs false
set_option linter.unusedVariables false
attribute [local go_sem] cell_if frozen_if grow_cell
/-- A struct that is built, as a quiet operation. -/
theorem quiet_bl {P : Program} {o : Oper} {a : Act} {w : World} {G : World → Prop} (t : TypeId) (parts : Array (Nat × Operand)) (vs : List (Nat × Value)) (cells : Array Value) (ho : o.op = .build t parts) (hx : (parts.toList.map fun (i, x) => (i, a.eval x)) = vs) (hr : P.built t vs = some cells) : Oper.quietUpon P G w (.agg cells) ((execOp a.eval o).run P w) := by
 have hx' : (parts.map fun (i, x) => (i, a.eval x)).toList = vs := by rw [Array.toList_map]; exact hx
 rw [← hx'] at hr
 unfold execOp
 simp only [ho, Sem.run_bind, run_build w t _ cells hr, Result.andThen_ok]
 exact ⟨rfl, rfl⟩
/-- Between two lines: the yard so far, the result as it was laid, the lines. -/
structure RpI (b go g cap : Nat) (ls : List ByteArray) (w : World) (z : Yd) (W : World) : Prop where
 yd : ∃ v0 v1 v2, YdO (go + 1) go 26 66 68 72 z v0 v1 v2 W
 q2 : Blk W b 26 #[.slice none 0 0, .slice none 0 0, .slice none 0 0]
 ln : Own W (b + 1) 9 1 g ls.length cap (ls.map .string)
 lt : g < go
 lb : b < go
 low : Below b w W
 le : go + 1 ≤ W.heap.size
theorem RpI.kept {b go g cap : Nat} {ls : List ByteArray} {w W W' : World} {z : Yd} (h : RpI b go g cap ls w z W) (hb : Below W.heap.size W W') : RpI b go g cap ls w z W' := by
 obtain ⟨v0, v1, v2, hy⟩ := h.yd
 exact ⟨⟨v0, v1, v2, hy.kept hb⟩, h.q2.kept hb, h.ln.kept hb, h.lt, h.lb, h.low.trans (hb.mono (by have := h.le; have := h.lb; omega)), Nat.le_trans h.le hb.size⟩
theorem RpI.after {b go g cap : Nat} {ls : List ByteArray} {w W W' : World} {z z' : Yd} (h : RpI b go g cap ls w z W) {u0 u1 u2 : Value} (hY : YdO (go + 1) go 26 66 68 72 z' u0 u1 u2 W')
 (hF : Fr3 (go + 1) go 66 68 72 W W') : RpI b go g cap ls w z' W' := by
 have hl := h.lb
 have hg := h.lt
 exact ⟨⟨u0, u1, u2, hY⟩, (hF.low _ (by omega) (by omega)).trans h.q2, h.ln.same (hF.low _ (by omega) (by omega)), h.lt, h.lb, h.low.trans ⟨hF.os, hF.tape, hF.output, hF.size, fun k hk => hF.low k (by omega) (by omega)⟩, Nat.le_trans h.le hF.size⟩
set_option maxRecDepth 100000 in
theorem rParse_long (s : ByteArray) (w : World) (hs : 4096 < s.size) : Calls Tryz.prog 76 #[.string s] w (PaRes w (nilY, 0, 26)) := by
 have h1 : (4096 : Int) < (s.size : Int) := by omega
 go_enter Tryz.func76, Tryz.ntmps76
 go_wp2_with fail
 refine bodyPost_ret (v := .tuple #[.agg #[.slice none 0 0, .slice none 0 0, .slice none 0 0], .int .i64 0, .int .i64 26]) ?_ rfl ⟨none, none, none, 0, 0, 0, rfl, ⟨Reads.nil_, Reads.nil_, Reads.nil_⟩, bl_⟩
 have ck := (Blk.new w 26 #[.slice none 0 0, .slice none 0 0, .slice none 0 0]).cell
 simp [results, Tryz.results76, go_sem, ck]
set_option maxRecDepth 100000 in
set_option maxHeartbeats 16000000 in
theorem rParse_short (s : ByteArray) (w : World) (hs : s.size ≤ 300) : Calls Tryz.prog 76 #[.string s] w (PaRes w (goP rpR nilY 0 (spL s 10))) := by
 have h1 : ¬ (4096 : Int) < (s.size : Int) := by omega
 have hsl := spTo_len s 10 s.size
 have hsb := words_b s 10 s.size (Nat.le_refl _)
 have HSp := Lib.hid (fun x W (hx : x.size ≤ 300) (c : Nat) => Split_any x c W (by omega))
 change 0 < (spL s 10).length ∧ (spL s 10).length ≤ s.size + 1 at hsl
 change ∀ x ∈ spL s 10, x.size ≤ s.size at hsb
 have HSs := Lib.hid (fun W => Split_any s 10 W (by omega))
 generalize spL s 10 = ls at *
 have hsb' : ∀ x ∈ ls, x.size ≤ 300 := fun x hx => Nat.le_trans (hsb x hx) hs
 have HSB := Lib.hid hsb'
 clear hsb hsb'
 go_enter Tryz.func76, Tryz.ntmps76
 go_wp2_with fail
 refine (HSs.out _).mono ?_
 rintro e w1 ⟨g, cap, rfl, hO, hb1⟩
 have hs1 := hb1.size
 have q1 : Blk w1 w.heap.size 26 #[.slice none 0 0, .slice none 0 0, .slice none 0 0] := (Blk.new w _ _).kept hb1
 simp at hs1
 have hO' : Own w1 (w.heap.size + 1) 9 1 g ls.length cap (ls.map .string) := by simpa using hO
 have H0 : Hid (RpI w.heap.size w1.heap.size g cap ls w nilY (w1.alloc (.cells #[.slice none 0 0, .slice none 0 0, .slice none 0 0] 26))) := Lib.hid
  ⟨⟨.slice none 0 0, .slice none 0 0, .slice none 0 0, Blk.new _ _ _, World.ownsRow_nil _ _ _ _, World.ownsRow_nil _ _ _ _, World.ownsRow_nil _ _ _ _⟩, q1.alloc _, hO'.alloc _, hO'.lt.2, by omega, bl_, by simp⟩
 clear q1 hO hO' hb1
 obtain ⟨m, hm⟩ : ∃ m, ls.length = m + 1 := ⟨ls.length - 1, by omega⟩
 rw [hm]
 have HM := Lib.hid hm
 have hm300 : m ≤ 300 := by omega
 clear hsl hm
 go_wp2_with fail
 go_loopw [7] (fun i wr => ∃ (k : Nat) (z : Yd), k ≤ m ∧ i = .int .i64 k ∧ Hid (runR nilY (ls.take k) = some z) ∧ RpI w.heap.size w1.heap.size g cap ls w z wr) (fun i _ => m - (intOf i).toNat)
 case atStart => exact ⟨0, nilY, Nat.zero_le _, rfl, Lib.hid rfl, H0.out⟩
 case round =>
  clear H0
  obtain ⟨k, z, hk, rfl, hz, hR⟩ := hrel
  have HR := Lib.hid hR
  have hlow := hR.low.size
  have hgl := hR.lt
  have hbl := hR.lb
  have hle := hR.le
  clear hR
  have hwr : IntKind.i64.wrap ((m : Int) + 1 - 1) = (m : Int) := by rw [IntKind.wrap_i64]; omega
  by_cases hlt : k < m
  · skip
    as_aux_lemma =>
     have hkl : k < ls.length := by rw [HM.out]; omega
     have hlv := own_live HR.out.ln k (by rw [HM.out]; omega)
     have cl : wr.cell? ⟨g, k, none⟩ = some (.string ls[k]) := by rw [hlv.1, List.getElem?_map, List.getElem?_eq_getElem hkl]; rfl
     have hl3 := HSB.out _ (List.getElem_mem hkl)
     have hki : (k : Int) < (m : Int) := by omega
     have hkn : (k : Int) < (m : Int) + 1 := by omega
     have HSn := Lib.hid (runR_snoc ls[k] (ls.take k) nilY z hz.out)
     have HEr : Hid (∀ e, (rpR z (spL ls[k] 32)).1 = e → e ≠ 0 → goP rpR nilY 0 ls = (nilY, k, e)) := Lib.hid fun e h1 h2 => by
      have hd : ls = ls.take k ++ ls[k] :: ls.drop (k + 1) := by rw [← List.drop_eq_getElem_cons hkl, List.take_append_drop]
      obtain ⟨m2, r2, e2⟩ : ∃ m2 r2, ls.drop (k + 1) = m2 :: r2 := by
       cases h : ls.drop (k + 1) with
       | nil =>
        have := congrArg List.length h
        rw [List.length_drop, HM.out] at this
        simp at this
        omega
       | cons a r => exact ⟨a, r, rfl⟩
      have h3 := goP_runR ls[k] (ls.drop (k + 1)) (ls.take k) nilY z 0 hz.out
      rw [← hd, e2, goP_no (by rw [h1]; exact h2), h1] at h3
      rw [h3, List.length_take, Nat.zero_add, Nat.min_eq_left (by omega)]
     have hTk : Hid (ls.take (k + 1) = ls.take k ++ [ls[k]]) := Lib.hid (List.take_succ_eq_append_getElem hkl)
     generalize ls[k] = l at *
     clear hlv
     go_wp2_with fail
     refine (HSp.out l _ hl3 32).mono ?_
     rintro e w2 ⟨g2, cap2, rfl, hO2, hb2⟩
     have hwl := (spTo_len l 32 l.size)
     change 0 < (spL l 32).length ∧ (spL l 32).length ≤ l.size + 1 at hwl
     have hwb := words_b l 32 l.size (Nat.le_refl _)
     change ∀ x ∈ spL l 32, x.size ≤ l.size at hwb
     have HR2 := Lib.hid (HR.out.kept hb2)
     have HO2 := Lib.hid hO2
     have HWB : Hid (∀ x ∈ spL l 32, x.size ≤ 300) := Lib.hid fun x hx => Nat.le_trans (hwb x hx) hl3
     have hLz := runR_len (M := 300) (ls.take k) 0 nilY z (lenN_nil _) (fun x hx => HSB.out x (List.mem_of_mem_take hx)) hz.out
     rw [List.length_take, HM.out, Nat.min_eq_left (by omega), Nat.zero_add] at hLz
     have HLz := Lib.hid hLz
     have hwn : (spL l 32).length ≤ 301 := by omega
     have hs2 := hb2.size
     clear hLz hwb hb2 hO2 cl HR hl3 HSp
     generalize spL l 32 = ws at *
     have hgl2 := HO2.out.lt
     have HFd := Lib.hid (fun W (hW : Below w2.heap.size w2 W) => formed_any (some ⟨g2, 0, none⟩) ws.length cap2 ws W ((HO2.out.reads.more (B' := w2.heap.size) (by omega)).below hW |>.more hW.size) hwl.1 (by omega))
     go_wp2_with fail
     refine (HFd.out _ (Below.refl _ _)).mono ?_
     rintro e w3 ⟨rfl, rfl⟩
     obtain ⟨v0, v1, v2, hY⟩ := HR2.out.yd
     obtain ⟨A0, A1, A2, c0, c1, c2, rfl, rfl, rfl, hyat⟩ := hY.at_
     have HY := Lib.hid hY
     have HYa := Lib.hid hyat
     have cg := hY.box.cell
     have lg := hY.box.lt
     have fg := hY.box.frozen
     have cb := HR2.out.q2.cell
     have fb := HR2.out.q2.frozen
     have lb := HR2.out.q2.lt
     have hlow2 := HR2.out.low
     clear hyat hY HFd
     have HLW := Lib.hid hlow2
     clear hlow2
     cases hf : frm ws with
     | false =>
      as_aux_lemma =>
       have hE25 := HEr.out 25 (by unfold rpR; rw [hf]; rfl) (by decide)
       go_wp2_with fail
       refine bodyPost_ret (v := .tuple #[.agg #[.slice none 0 0, .slice none 0 0, .slice none 0 0], .int .i64 (k : Int), .int .i64 25]) ?_ rfl ?_
       · have ck := ((((HR2.out.q2.set_ 0 (.slice none 0 0)).set_ 1 (.slice none 0 0)).set_ 2 (.slice none 0 0))).cell
         simp [results, Tryz.results76, go_sem, ck]
       · rw [hE25]
         exact ⟨none, none, none, 0, 0, 0, rfl, ⟨Reads.nil_, Reads.nil_, Reads.nil_⟩, ((HLW.out.setCell (p := ⟨w.heap.size, 0, none⟩) (Nat.le_refl _) _).setCell (p := ⟨w.heap.size, 1, none⟩) (Nat.le_refl _) _).setCell (p := ⟨w.heap.size, 2, none⟩) (Nat.le_refl _) _⟩
     | true =>
      have HRp : Hid (∀ z', (rpR z ws) = (0, z') → runR nilY (ls.take (k + 1)) = some z') := Lib.hid fun z' h => by rw [hTk.out, HSn.out, h]; rfl
      rcases forms hf with ⟨x1, x2, rfl⟩ | ⟨x1, x2, rfl⟩ | ⟨x1, x2, x3, rfl⟩ | ⟨x0, x1, x2, x3, x4, hx0, hx0', rfl⟩
      · skip
        as_aux_lemma =>
         have eL : ([⟨sectionL.toArray⟩, x1, x2] : List ByteArray).length = 3 := rfl
         have ow0 := own_live HO2.out 0 (by simp)
         have cw0 : w2.cell? ⟨g2, 0, none⟩ = some (.string ⟨sectionL.toArray⟩) := ow0.1
         clear ow0
         have ow1 := own_live HO2.out 1 (by simp)
         have cw1 : w2.cell? ⟨g2, 1, none⟩ = some (.string x1) := ow1.1
         clear ow1
         have ow2 := own_live HO2.out 2 (by simp)
         have cw2 : w2.cell? ⟨g2, 2, none⟩ = some (.string x2) := ow2.1
         clear ow2
         have hk1 : ((⟨sectionL.toArray⟩ : ByteArray).toList == [115, 101, 99, 116, 105, 111, 110]) = true := by rw [toList_data]; rfl
         have hk2 : ((⟨sectionL.toArray⟩ : ByteArray).toList == [112, 101, 114, 109, 105, 116]) = false := by rw [toList_data]; rfl
         have hn1 := HLz.out.w
         have hn2 := HLz.out.p
         have hn0 := HLz.out.s
         have hwrl : IntKind.i64.wrap ((z.w.length : Int) + (z.p.length : Int)) = (z.w.length : Int) + (z.p.length : Int) := by rw [IntKind.wrap_i64]; omega
         have hwr0 : wAt [⟨sectionL.toArray⟩, x1, x2] 0 = ⟨sectionL.toArray⟩ := rfl
         have HV : Hid (rpR z [⟨sectionL.toArray⟩, x1, x2] = if decide (0 < z.w.length + z.p.length) then (25, z) else (0, { z with s := z.s ++ [⟨x1, x2.toList == sourceL⟩] })) := Lib.hid (by
          have k1 : ((wAt [⟨sectionL.toArray⟩, x1, x2] 0).toList == sectionL) = true := hk1
          have k2 : ((wAt [⟨sectionL.toArray⟩, x1, x2] 0).toList == permitL) = false := hk2
          unfold rpR
          rw [hf, k1, k2]
          cases hd : decide (0 < z.w.length + z.p.length) with
          | true => rfl
          | false =>
           have hp : decide (0 < z.p.length) = false := by
            have := of_decide_eq_false hd
            exact decide_eq_false (by omega)
           rw [hp]
           rfl)
         generalize (⟨sectionL.toArray⟩ : ByteArray) = xx at *
         clear hwr0
         by_cases hd : 0 < z.w.length + z.p.length
         · have hE25 := HEr.out 25 (by rw [HV.out, if_pos (by simpa using hd)]) (by decide)
           have hdI : (0 : Int) < (z.w.length : Int) + (z.p.length : Int) := by omega
           clear HEr
           go_wp2_with fail
           refine bodyPost_ret (v := .tuple #[.agg #[.slice none 0 0, .slice none 0 0, .slice none 0 0], .int .i64 (k : Int), .int .i64 25]) ?_ rfl ?_
           · have ck := ((((HR2.out.q2.set_ 0 (.slice none 0 0)).set_ 1 (.slice none 0 0)).set_ 2 (.slice none 0 0))).cell
             simp [results, Tryz.results76, go_sem, ck]
           · rw [hE25]
             exact ⟨none, none, none, 0, 0, 0, rfl, ⟨Reads.nil_, Reads.nil_, Reads.nil_⟩, ((HLW.out.setCell (p := ⟨w.heap.size, 0, none⟩) (Nat.le_refl _) _).setCell (p := ⟨w.heap.size, 1, none⟩) (Nat.le_refl _) _).setCell (p := ⟨w.heap.size, 2, none⟩) (Nat.le_refl _) _⟩
         · have hdI : ¬ (0 : Int) < (z.w.length : Int) + (z.p.length : Int) := by omega
           have hrn := HRp.out { z with s := z.s ++ [⟨x1, x2.toList == sourceL⟩] } (by rw [HV.out, if_neg (by simpa using hd)])
           have HRN := Lib.hid hrn
           clear hrn HEr HRp
           obtain ⟨r0, hr0, hr1, hr2⟩ : ∃ r0, (∀ r, (Value.slice A0 z.s.length c0).ownBlock = some r → r = r0) ∧ r0 < w2.heap.size ∧ g2 ≠ r0 := by
            cases h : (Value.slice A0 z.s.length c0).ownBlock with
            | none => exact ⟨w1.heap.size, fun r e => (by cases e), lg, by omega⟩
            | some r =>
             refine ⟨r, fun z e => (by cases e; rfl), (HY.out.r0.lt r h).2, fun e => ?_⟩
             obtain ⟨_, d, f, hd⟩ := own_row HY.out.r0 h
             obtain ⟨_, d', f', hd'⟩ := own_row HO2.out (k := g2) rfl
             rw [e, hd] at hd'
             simp at hd'
           have HR0 := Lib.hid hr0
           clear hr0
           have HAp : Hid (∀ U V g' cap', YdO (w1.heap.size + 1) w1.heap.size 26 66 68 72 z (.slice A0 z.s.length c0) (.slice A1 z.w.length c1) (.slice A2 z.p.length c2) U → U.grownBy V (Value.slice A0 z.s.length c0).ownBlock → Own V (w1.heap.size + 1) 66 2 g' (z.s.length + 1) cap' (secs z.s ++ (#[.string x1, .bool (x2.toList == sourceL)] : Array Value).toList) → YdO (w1.heap.size + 1) w1.heap.size 26 66 68 72 { z with s := z.s ++ [⟨x1, x2.toList == sourceL⟩] } (.slice (some ⟨g', 0, none⟩) (z.s.length + 1) cap') (.slice A1 z.w.length c1) (.slice A2 z.p.length c2) (V.setCell ⟨w1.heap.size, 0, none⟩ (.slice (some ⟨g', 0, none⟩) (z.s.length + 1) cap'))) :=
            Lib.hid fun U V g' cap' h hg ho => h.app0 (x := ⟨x1, x2.toList == sourceL⟩) (by decide) (by decide) (by decide) (by decide) (by decide) hg ho
           have hsq : (x2.toList == [115, 111, 117, 114, 99, 101]) = (x2.toList == sourceL) := rfl
           generalize (x2.toList == sourceL) = src at *
           clear HV HLW
           go_wp2_with fail
           (refine wp_region_calm [w1.heap.size, r0] [0, 2, 3, 4, 5, 6, 7, 8, 9] 5 (by kernel_rfl) rfl (by kernel_rfl) (by kernel_rfl) (by kernel_rfl) ?_; simp only [pickB, List.filterMap_cons, List.filterMap_nil, List.getElem?_toArray, List.getElem?_cons_zero, List.getElem?_cons_succ]; (repeat (first | ((first | (with_reducible refine quietL_plain rfl (fun K hK => ?_)) | (with_reducible refine quietL_want (by with_unfolding_all rfl) (fun K hK => ?_))); (apply Exists.intro; refine ⟨fun wx hx => ?_, ?_⟩; (· (have hcx := ifs_ex hx); simp [go_sem, *, ↓IntWalk.iteOmega] <;> (first | rfl | exact ⟨rfl, rfl⟩ | fail)); (simp only [Act.put, List.setIfInBounds_toArray, List.set_cons_zero, List.set_cons_succ]; refine hK _ ?_; clear hK K))) | ((with_reducible refine quietL_skip (by with_unfolding_all rfl) ?_); simp only [Act.put, List.setIfInBounds_toArray, List.set_cons_zero, List.set_cons_succ]))); refine quietL_nil ?_)
           refine anyB_two (i := 1) (j := 10) (by kernel_rfl) rfl rfl rfl rfl ?_ ?_
           · intro w8 hb8 K hK
             have cg8 := (HY.out.kept hb8).box.cell
             have hs8 := hb8.size
             go_wp2
             refine ⟨xs_, ?_⟩
             refine anyB_one (i := 10) (by kernel_rfl) rfl rfl ?_
             intro w9 hb9 K hK
             have hs9 := hb9.size
             refine wp_bs 22 66 (.tmp 77) (.agg #[.string x1, .bool src]) #[.string x1, .bool src] rfl rfl (by kernel_rfl) (hK _ _ ⟨xs_, ?_⟩)
             clear hK K
             have HBL : Hid (∀ W', Below (w9.alloc (.cells #[.string x1, .bool src] 66)).heap.size (w9.alloc (.cells #[.string x1, .bool src] 66)) W' → Blk W' w9.heap.size 66 #[.string x1, .bool src]) := Lib.hid fun W' h => (Blk.new _ _ _).kept h
             have HLow : Hid (∀ W', Below (w9.alloc (.cells #[.string x1, .bool src] 66)).heap.size (w9.alloc (.cells #[.string x1, .bool src] 66)) W' → Below w2.heap.size w2 W') := Lib.hid fun W' h => (((hb8.trans (hb9.mono hs8)).alloc (by omega) _).trans (h.mono (by simp; omega)))
             refine anyB_one (i := 11) (by kernel_rfl) rfl rfl ?_
             intro wd hbd K hK
             have hWd := HLow.out wd hbd
             have hYd := HY.out.kept hWd
             have hbl := HBL.out wd hbd
             have hsd := hWd.size
             refine wp_appB 22 66 2 24 elemSecR (.tmp 69) (.tmp 78) rfl (w1.heap.size + 1) _ _ _ rfl hYd.r0 w9.heap.size 1 _ rfl hbl rfl ?_ (by decide) ?_ ?_ ?_ ?_
             · intro u hu; simp at hu; first | (rcases hu with rfl | rfl <;> rfl) | (rcases hu with rfl | rfl | rfl | rfl | rfl <;> rfl)
             · unfold maxLen; omega
             · omega
             · omega
             intro g' cap' we hown hg hat
             have hXe : Ex [w1.heap.size, r0] w2 we := (Ex.of_below hWd).trans (Ex.of_grown hg (fun r e => by rw [HR0.out r e]; simp))
             refine hK _ _ ⟨hXe, ?_⟩
             clear hK K hat
             have HG := Lib.hid hg
             have HO := Lib.hid hown
             have HYd := Lib.hid hYd
             have HWd := Lib.hid hWd
             have hbe := hYd.box.grown hg (own_neT hYd.r0 hYd.box (by decide))
             have HBe := Lib.hid hbe
             clear hown hg hYd hWd hbl hbe hbd
             (refine anyB_quiet_at (by kernel_rfl) calm_panic xs_ 1 [12] _ _ (by kernel_rfl) (by decide +kernel) ?_; simp only [pickB, List.filterMap_cons, List.filterMap_nil, List.getElem?_toArray, List.getElem?_cons_zero, List.getElem?_cons_succ]; (repeat (first | ((first | (with_reducible refine quietL_plain rfl (fun K hK => ?_)) | (with_reducible refine quietL_want (by with_unfolding_all rfl) (fun K hK => ?_))); (apply Exists.intro; refine ⟨fun wx hx => ?_, ?_⟩; (· (have hcx := ifs_ex hx); simp [go_sem, *, ↓IntWalk.iteOmega] <;> (first | rfl | exact ⟨rfl, rfl⟩ | fail)); (simp only [Act.put, List.setIfInBounds_toArray, List.set_cons_zero, List.set_cons_succ]; refine hK _ ?_; clear hK K))) | ((with_reducible refine quietL_skip (by with_unfolding_all rfl) ?_); simp only [Act.put, List.setIfInBounds_toArray, List.set_cons_zero, List.set_cons_succ]))); refine quietL_nil ?_)
             refine anyB_one (i := 13) (by kernel_rfl) rfl rfl ?_
             intro wf hbf K hK
             have bg := HBe.out.kept hbf
             have cgf := bg.cell
             have fgf := bg.frozen
             have lgf := bg.lt
             have HN := Lib.hid (HAp.out _ _ _ _ HYd.out (grown_then HG.out hbf) (HO.out.kept hbf))
             have HFr := Lib.hid (((((Fr3.refl (w1.heap.size + 1) w1.heap.size 66 68 72 w2 HR2.out.le).below HWd.out).grown (by decide) HYd.out.r0 HG.out).below hbf).set (.inl rfl) 0 (.slice (some ⟨g', 0, none⟩) (z.s.length + 1) cap'))
             clear bg
             go_wp2
             refine ⟨xs_, ?_⟩
             refine anyB_end (by kernel_rfl) ?_
             intro wm hbm
             simp only [Calm]
             have HN2 := Lib.hid (HN.out.kept hbm)
             have HFr2 := Lib.hid (HFr.out.below hbm)
             clear HN HFr HG HO HYd HWd HBe
             have HAf := Lib.hid (HR2.out.after HN2.out HFr2.out)
             clear HN2 HFr2
             go_wp2_with fail
             go_roundw
             case rel => exact ⟨k + 1, _, by omega, by go_num, HRN, HAf.out⟩
             case measure => simp [intOf]; omega
           · intro w8 hb8 K hK
             have hs8 := hb8.size
             refine wp_bs 22 66 (.tmp 77) (.agg #[.string x1, .bool src]) #[.string x1, .bool src] rfl rfl (by kernel_rfl) (hK _ _ ⟨xs_, ?_⟩)
             clear hK K
             refine anyB_one (i := 1) (by kernel_rfl) rfl rfl ?_
             intro w9 hb9 K hK
             have hl9 : Below w2.heap.size w2 w9 := (hb8.alloc hs8 _).trans (hb9.mono (by simp; omega))
             have cg9 := (HY.out.kept hl9).box.cell
             have hs9 := hl9.size
             have HL9 := Lib.hid hl9
             have HBL : Hid (∀ W', Below w9.heap.size w9 W' → Blk W' w8.heap.size 66 #[.string x1, .bool src]) := Lib.hid fun W' h => ((Blk.new _ _ _).kept hb9).kept h
             have HLow : Hid (∀ W', Below w9.heap.size w9 W' → Below w2.heap.size w2 W') := Lib.hid fun W' h => HL9.out.trans (h.mono hs9)
             clear hl9
             go_wp2
             refine ⟨xs_, ?_⟩
             refine anyB_one (i := 11) (by kernel_rfl) rfl rfl ?_
             intro wd hbd K hK
             have hWd := HLow.out wd hbd
             have hYd := HY.out.kept hWd
             have hbl := HBL.out wd hbd
             have hsd := hWd.size
             refine wp_appB 22 66 2 24 elemSecR (.tmp 69) (.tmp 78) rfl (w1.heap.size + 1) _ _ _ rfl hYd.r0 w8.heap.size 1 _ rfl hbl rfl ?_ (by decide) ?_ ?_ ?_ ?_
             · intro u hu; simp at hu; first | (rcases hu with rfl | rfl <;> rfl) | (rcases hu with rfl | rfl | rfl | rfl | rfl <;> rfl)
             · unfold maxLen; omega
             · omega
             · omega
             intro g' cap' we hown hg hat
             have hXe : Ex [w1.heap.size, r0] w2 we := (Ex.of_below hWd).trans (Ex.of_grown hg (fun r e => by rw [HR0.out r e]; simp))
             refine hK _ _ ⟨hXe, ?_⟩
             clear hK K hat
             have HG := Lib.hid hg
             have HO := Lib.hid hown
             have HYd := Lib.hid hYd
             have HWd := Lib.hid hWd
             have hbe := hYd.box.grown hg (own_neT hYd.r0 hYd.box (by decide))
             have HBe := Lib.hid hbe
             clear hown hg hYd hWd hbl hbe hbd
             (refine anyB_quiet_at (by kernel_rfl) calm_panic xs_ 1 [12] _ _ (by kernel_rfl) (by decide +kernel) ?_; simp only [pickB, List.filterMap_cons, List.filterMap_nil, List.getElem?_toArray, List.getElem?_cons_zero, List.getElem?_cons_succ]; (repeat (first | ((first | (with_reducible refine quietL_plain rfl (fun K hK => ?_)) | (with_reducible refine quietL_want (by with_unfolding_all rfl) (fun K hK => ?_))); (apply Exists.intro; refine ⟨fun wx hx => ?_, ?_⟩; (· (have hcx := ifs_ex hx); simp [go_sem, *, ↓IntWalk.iteOmega] <;> (first | rfl | exact ⟨rfl, rfl⟩ | fail)); (simp only [Act.put, List.setIfInBounds_toArray, List.set_cons_zero, List.set_cons_succ]; refine hK _ ?_; clear hK K))) | ((with_reducible refine quietL_skip (by with_unfolding_all rfl) ?_); simp only [Act.put, List.setIfInBounds_toArray, List.set_cons_zero, List.set_cons_succ]))); refine quietL_nil ?_)
             refine anyB_one (i := 13) (by kernel_rfl) rfl rfl ?_
             intro wf hbf K hK
             have bg := HBe.out.kept hbf
             have cgf := bg.cell
             have fgf := bg.frozen
             have lgf := bg.lt
             have HN := Lib.hid (HAp.out _ _ _ _ HYd.out (grown_then HG.out hbf) (HO.out.kept hbf))
             have HFr := Lib.hid (((((Fr3.refl (w1.heap.size + 1) w1.heap.size 66 68 72 w2 HR2.out.le).below HWd.out).grown (by decide) HYd.out.r0 HG.out).below hbf).set (.inl rfl) 0 (.slice (some ⟨g', 0, none⟩) (z.s.length + 1) cap'))
             clear bg
             go_wp2
             refine ⟨xs_, ?_⟩
             refine anyB_end (by kernel_rfl) ?_
             intro wm hbm
             simp only [Calm]
             have HN2 := Lib.hid (HN.out.kept hbm)
             have HFr2 := Lib.hid (HFr.out.below hbm)
             clear HN HFr HG HO HYd HWd HBe
             have HAf := Lib.hid (HR2.out.after HN2.out HFr2.out)
             clear HN2 HFr2
             go_wp2_with fail
             go_roundw
             case rel => exact ⟨k + 1, _, by omega, by go_num, HRN, HAf.out⟩
             case measure => simp [intOf]; omega
      · skip
        as_aux_lemma =>
         have ow0 := own_live HO2.out 0 (by simp)
         have cw0 : w2.cell? ⟨g2, 0, none⟩ = some (.string ⟨permitL.toArray⟩) := ow0.1
         clear ow0
         have ow1 := own_live HO2.out 1 (by simp)
         have cw1 : w2.cell? ⟨g2, 1, none⟩ = some (.string x1) := ow1.1
         clear ow1
         have ow2 := own_live HO2.out 2 (by simp)
         have cw2 : w2.cell? ⟨g2, 2, none⟩ = some (.string x2) := ow2.1
         clear ow2
         have hk1 : ((⟨permitL.toArray⟩ : ByteArray).toList == [115, 101, 99, 116, 105, 111, 110]) = false := by rw [toList_data]; rfl
         have hk2 : ((⟨permitL.toArray⟩ : ByteArray).toList == [112, 101, 114, 109, 105, 116]) = true := by rw [toList_data]; rfl
         have hn1 := HLz.out.w
         have hn2 := HLz.out.p
         have hn0 := HLz.out.s
         have HV : Hid (rpR z [⟨permitL.toArray⟩, x1, x2] = if decide (secAtB z x2 < 0) then (10, z) else (0, { z with p := z.p ++ [⟨x1, secAtB z x2⟩] })) := Lib.hid (by
          have k1 : ((wAt [⟨permitL.toArray⟩, x1, x2] 0).toList == sectionL) = false := hk1
          have k2 : ((wAt [⟨permitL.toArray⟩, x1, x2] 0).toList == permitL) = true := hk2
          have k3 : wAt [⟨permitL.toArray⟩, x1, x2] 2 = x2 := rfl
          have k4 : decide ([⟨permitL.toArray⟩, x1, x2].length = 5) = false := rfl
          unfold rpR
          rw [hf, k1, k2, k3, k4]
          dsimp only
          cases hd : decide (secAtB z x2 < 0) <;> rfl)
         have HR2' := HR2
         clear HLW HR2'
         generalize (⟨permitL.toArray⟩ : ByteArray) = xx at *
         have HFS := Lib.hid (fun W (hW : Below w2.heap.size w2 W) => FindSec_any w2.heap.size A0 A1 A2 z.s.length z.w.length z.p.length c0 c1 c2 z x2 W (HYa.out.below hW) hW.size (by omega))
         generalize secAtB z x2 = si at *
         go_wp2_with fail
         (refine wp_region_calm [] [0, 1, 2, 3, 4, 5, 6, 7] 2 (by kernel_rfl) rfl (by kernel_rfl) (by kernel_rfl) (by kernel_rfl) ?_; simp only [pickB, List.filterMap_cons, List.filterMap_nil, List.getElem?_toArray, List.getElem?_cons_zero, List.getElem?_cons_succ]; (repeat (first | ((first | (with_reducible refine quietL_plain rfl (fun K hK => ?_)) | (with_reducible refine quietL_want (by with_unfolding_all rfl) (fun K hK => ?_))); (apply Exists.intro; refine ⟨fun wx hx => ?_, ?_⟩; (· (have hcx := ifs_ex hx); simp [go_sem, *, ↓IntWalk.iteOmega] <;> (first | rfl | exact ⟨rfl, rfl⟩ | (have hbx := Ex.below hx; exact calls_B (HFS.out _ hbx)))); (simp only [Act.put, List.setIfInBounds_toArray, List.set_cons_zero, List.set_cons_succ]; refine hK _ ?_; clear hK K))) | ((with_reducible refine quietL_skip (by with_unfolding_all rfl) ?_); simp only [Act.put, List.setIfInBounds_toArray, List.set_cons_zero, List.set_cons_succ]))); refine quietL_nil ?_)
         (refine anyB_one (i := 8) (by kernel_rfl) rfl rfl ?_; intro w3 hb3 K hK; have hs3 := hb3.size; (try simp at hs3); go_wp2; refine ⟨xs_, ?_⟩)
         (refine anyB_one (i := 9) (by kernel_rfl) rfl rfl ?_; intro w4 hb4 K hK; have hs4 := hb4.size; (try simp at hs4); go_wp2; refine ⟨xs_, ?_⟩)
         (refine anyB_end (by kernel_rfl) ?_; intro w5 hb5; have hs5 := hb5.size; (try simp at hs5); simp only [Calm])
         have hb25 : Below w2.heap.size w2 w5 := bl_
         have HR5 := Lib.hid (HR2.out.kept hb25)
         have HY5 := Lib.hid (HY.out.kept hb25)
         have HO5 := Lib.hid (own_kept HO2.out hb25)
         have HYa5 := Lib.hid ((HYa.out.below hb25).more hb25.size)
         have hs25 := hb25.size
         clear hb25 hb3 hb4 hb5 cg lg fg cb fb lb HFS
         have cg5 := HY5.out.box.cell
         have lg5 := HY5.out.box.lt
         have fg5 := HY5.out.box.frozen
         have cb5 := HR5.out.q2.cell
         have fb5 := HR5.out.q2.frozen
         have lb5 := HR5.out.q2.lt
         have ow0 := own_live HO5.out 0 (by simp)
         have cw0 : w5.cell? ⟨g2, 0, none⟩ = some (.string xx) := ow0.1
         clear ow0
         clear cw1 cw2
         by_cases ha : si < 0
         · skip
           as_aux_lemma =>
            have hEe := HEr.out 10 (by rw [HV.out, if_pos (by simpa using ha)]) (by decide)
            clear HEr HRp HV
            go_wp2_with fail
            refine bodyPost_ret (v := .tuple #[.agg #[.slice none 0 0, .slice none 0 0, .slice none 0 0], .int .i64 (k : Int), .int .i64 10]) ?_ rfl ?_
            · have ck := ((((HR5.out.q2.set_ 0 (.slice none 0 0)).set_ 1 (.slice none 0 0)).set_ 2 (.slice none 0 0))).cell
              simp [results, Tryz.results76, go_sem, ck]
            · try rw [hEe]
              exact ⟨none, none, none, 0, 0, 0, rfl, ⟨Reads.nil_, Reads.nil_, Reads.nil_⟩, ((HR5.out.low.setCell (p := ⟨w.heap.size, 0, none⟩) (Nat.le_refl _) _).setCell (p := ⟨w.heap.size, 1, none⟩) (Nat.le_refl _) _).setCell (p := ⟨w.heap.size, 2, none⟩) (Nat.le_refl _) _⟩
         · skip
           as_aux_lemma =>
            have HRN := Lib.hid (HRp.out { z with p := z.p ++ [⟨x1, si⟩] } (by rw [HV.out, if_neg (by simpa using ha)]))
            clear HEr HRp HV
            have ow1 := own_live HO5.out 1 (by simp)
            have cw1 : w5.cell? ⟨g2, 1, none⟩ = some (.string x1) := ow1.1
            clear ow1
            obtain ⟨r0, hr0, hr1, hr2⟩ : ∃ r0, (∀ r, (Value.slice A2 z.p.length c2).ownBlock = some r → r = r0) ∧ r0 < w5.heap.size ∧ g2 ≠ r0 := by
             cases h : (Value.slice A2 z.p.length c2).ownBlock with
             | none => exact ⟨w1.heap.size, fun r e => (by cases e), lg5, by omega⟩
             | some r =>
              refine ⟨r, fun z e => (by cases e; rfl), (HY5.out.r2.lt r h).2, fun e => ?_⟩
              obtain ⟨_, d, f, hd⟩ := own_row HY5.out.r2 h
              obtain ⟨_, d', f', hd'⟩ := own_row HO5.out (k := g2) rfl
              rw [e, hd] at hd'
              simp at hd'
            have HR0 := Lib.hid hr0
            clear hr0
            have HAp : Hid (∀ U V g' cap', YdO (w1.heap.size + 1) w1.heap.size 26 66 68 72 z (.slice A0 z.s.length c0) (.slice A1 z.w.length c1) (.slice A2 z.p.length c2) U → U.grownBy V (Value.slice A2 z.p.length c2).ownBlock → Own V (w1.heap.size + 1) 72 2 g' (z.p.length + 1) cap' (pms z.p ++ (#[.string x1, .int .i64 si] : Array Value).toList) → YdO (w1.heap.size + 1) w1.heap.size 26 66 68 72 { z with p := z.p ++ [⟨x1, si⟩] } (.slice A0 z.s.length c0) (.slice A1 z.w.length c1) (.slice (some ⟨g', 0, none⟩) (z.p.length + 1) cap') (V.setCell ⟨w1.heap.size, 2, none⟩ (.slice (some ⟨g', 0, none⟩) (z.p.length + 1) cap'))) :=
             Lib.hid fun U V g' cap' h hg ho => h.app2 (x := ⟨x1, si⟩) (by decide) (by decide) (by decide) (by decide) (by decide) hg ho
            go_wp2_with fail
            (refine wp_region_calm [w1.heap.size, r0] [0, 2, 3, 4, 5, 6] 5 (by kernel_rfl) rfl (by kernel_rfl) (by kernel_rfl) (by kernel_rfl) ?_; simp only [pickB, List.filterMap_cons, List.filterMap_nil, List.getElem?_toArray, List.getElem?_cons_zero, List.getElem?_cons_succ]; (repeat (first | ((first | (with_reducible refine quietL_plain rfl (fun K hK => ?_)) | (with_reducible refine quietL_want (by with_unfolding_all rfl) (fun K hK => ?_))); (apply Exists.intro; refine ⟨fun wx hx => ?_, ?_⟩; (· (have hcx := ifs_ex hx); simp [go_sem, *, ↓IntWalk.iteOmega] <;> (first | rfl | exact ⟨rfl, rfl⟩ | fail)); (simp only [Act.put, List.setIfInBounds_toArray, List.set_cons_zero, List.set_cons_succ]; refine hK _ ?_; clear hK K))) | ((with_reducible refine quietL_skip (by with_unfolding_all rfl) ?_); simp only [Act.put, List.setIfInBounds_toArray, List.set_cons_zero, List.set_cons_succ]))); refine quietL_nil ?_)
            refine anyB_two (i := 1) (j := 7) (by kernel_rfl) rfl rfl rfl rfl ?_ ?_
            · intro w8 hb8 K hK
              have cg8 := (HY5.out.kept hb8).box.cell
              have hs8 := hb8.size
              go_wp2
              refine ⟨xs_, ?_⟩
              refine anyB_one (i := 7) (by kernel_rfl) rfl rfl ?_
              intro w9 hb9 K hK
              have hs9 := hb9.size
              refine wp_bs 24 72 (.tmp 123) (.agg #[.string x1, .int .i64 si]) #[.string x1, .int .i64 si] rfl rfl (by kernel_rfl) (hK _ _ ⟨xs_, ?_⟩)
              clear hK K
              have HBL : Hid (∀ W', Below (w9.alloc (.cells #[.string x1, .int .i64 si] 72)).heap.size (w9.alloc (.cells #[.string x1, .int .i64 si] 72)) W' → Blk W' w9.heap.size 72 #[.string x1, .int .i64 si]) := Lib.hid fun W' h => (Blk.new _ _ _).kept h
              have HLow : Hid (∀ W', Below (w9.alloc (.cells #[.string x1, .int .i64 si] 72)).heap.size (w9.alloc (.cells #[.string x1, .int .i64 si] 72)) W' → Below w5.heap.size w5 W') := Lib.hid fun W' h => (((hb8.trans (hb9.mono hs8)).alloc (by omega) _).trans (h.mono (by simp; omega)))
              as_aux_lemma =>
               refine anyB_one (i := 8) (by kernel_rfl) rfl rfl ?_
               intro wd hbd K hK
               have hWd := HLow.out wd hbd
               have hYd := HY5.out.kept hWd
               have hbl := HBL.out wd hbd
               have hsd := hWd.size
               refine wp_appB 24 72 2 24 elemPmR (.tmp 118) (.tmp 124) rfl (w1.heap.size + 1) _ _ _ rfl hYd.r2 w9.heap.size 1 _ rfl hbl rfl ?_ (by decide) ?_ ?_ ?_ ?_
               · intro u hu; simp at hu; first | (rcases hu with rfl | rfl <;> rfl) | (rcases hu with rfl | rfl | rfl | rfl | rfl <;> rfl)
               · unfold maxLen; omega
               · omega
               · omega
               intro g' cap' we hown hg hat
               have hXe : Ex [w1.heap.size, r0] w5 we := (Ex.of_below hWd).trans (Ex.of_grown hg (fun r e => by rw [HR0.out r e]; simp))
               refine hK _ _ ⟨hXe, ?_⟩
               clear hK K hat
               have HG := Lib.hid hg
               have HO := Lib.hid hown
               have HYd := Lib.hid hYd
               have HWd := Lib.hid hWd
               have hbe := hYd.box.grown hg (own_neT hYd.r2 hYd.box (by decide))
               have HBe := Lib.hid hbe
               clear hown hg hYd hWd hbl hbe hbd
               (refine anyB_quiet_at (by kernel_rfl) calm_panic xs_ 1 [9] _ _ (by kernel_rfl) (by decide +kernel) ?_; simp only [pickB, List.filterMap_cons, List.filterMap_nil, List.getElem?_toArray, List.getElem?_cons_zero, List.getElem?_cons_succ]; (repeat (first | ((first | (with_reducible refine quietL_plain rfl (fun K hK => ?_)) | (with_reducible refine quietL_want (by with_unfolding_all rfl) (fun K hK => ?_))); (apply Exists.intro; refine ⟨fun wx hx => ?_, ?_⟩; (· (have hcx := ifs_ex hx); simp [go_sem, *, ↓IntWalk.iteOmega] <;> (first | rfl | exact ⟨rfl, rfl⟩ | fail)); (simp only [Act.put, List.setIfInBounds_toArray, List.set_cons_zero, List.set_cons_succ]; refine hK _ ?_; clear hK K))) | ((with_reducible refine quietL_skip (by with_unfolding_all rfl) ?_); simp only [Act.put, List.setIfInBounds_toArray, List.set_cons_zero, List.set_cons_succ]))); refine quietL_nil ?_)
               refine anyB_one (i := 10) (by kernel_rfl) rfl rfl ?_
               intro wf hbf K hK
               have bg := HBe.out.kept hbf
               have cgf := bg.cell
               have fgf := bg.frozen
               have lgf := bg.lt
               have HN := Lib.hid (HAp.out _ _ _ _ HYd.out (grown_then HG.out hbf) (HO.out.kept hbf))
               have HFr := Lib.hid (((((Fr3.refl (w1.heap.size + 1) w1.heap.size 66 68 72 w5 HR5.out.le).below HWd.out).grown (by decide) HYd.out.r2 HG.out).below hbf).set (.inl rfl) 2 (.slice (some ⟨g', 0, none⟩) (z.p.length + 1) cap'))
               clear bg
               go_wp2
               refine ⟨xs_, ?_⟩
               refine anyB_end (by kernel_rfl) ?_
               intro wm hbm
               simp only [Calm]
               have HN2 := Lib.hid (HN.out.kept hbm)
               have HFr2 := Lib.hid (HFr.out.below hbm)
               clear HN HFr HG HO HYd HWd HBe
               have HAf := Lib.hid (HR5.out.after HN2.out HFr2.out)
               clear HN2 HFr2
               go_wp2_with fail
               go_roundw
               case rel => exact ⟨k + 1, _, by omega, by go_num, HRN, HAf.out⟩
               case measure => simp [intOf]; omega
            · intro w8 hb8 K hK
              have hs8 := hb8.size
              refine wp_bs 24 72 (.tmp 123) (.agg #[.string x1, .int .i64 si]) #[.string x1, .int .i64 si] rfl rfl (by kernel_rfl) (hK _ _ ⟨xs_, ?_⟩)
              clear hK K
              refine anyB_one (i := 1) (by kernel_rfl) rfl rfl ?_
              intro w9 hb9 K hK
              have hl9 : Below w5.heap.size w5 w9 := (hb8.alloc hs8 _).trans (hb9.mono (by simp; omega))
              have cg9 := (HY5.out.kept hl9).box.cell
              have hs9 := hl9.size
              have HL9 := Lib.hid hl9
              have HBL : Hid (∀ W', Below w9.heap.size w9 W' → Blk W' w8.heap.size 72 #[.string x1, .int .i64 si]) := Lib.hid fun W' h => ((Blk.new _ _ _).kept hb9).kept h
              have HLow : Hid (∀ W', Below w9.heap.size w9 W' → Below w5.heap.size w5 W') := Lib.hid fun W' h => HL9.out.trans (h.mono hs9)
              clear hl9
              go_wp2
              refine ⟨xs_, ?_⟩
              as_aux_lemma =>
               refine anyB_one (i := 8) (by kernel_rfl) rfl rfl ?_
               intro wd hbd K hK
               have hWd := HLow.out wd hbd
               have hYd := HY5.out.kept hWd
               have hbl := HBL.out wd hbd
               have hsd := hWd.size
               refine wp_appB 24 72 2 24 elemPmR (.tmp 118) (.tmp 124) rfl (w1.heap.size + 1) _ _ _ rfl hYd.r2 w8.heap.size 1 _ rfl hbl rfl ?_ (by decide) ?_ ?_ ?_ ?_
               · intro u hu; simp at hu; first | (rcases hu with rfl | rfl <;> rfl) | (rcases hu with rfl | rfl | rfl | rfl | rfl <;> rfl)
               · unfold maxLen; omega
               · omega
               · omega
               intro g' cap' we hown hg hat
               have hXe : Ex [w1.heap.size, r0] w5 we := (Ex.of_below hWd).trans (Ex.of_grown hg (fun r e => by rw [HR0.out r e]; simp))
               refine hK _ _ ⟨hXe, ?_⟩
               clear hK K hat
               have HG := Lib.hid hg
               have HO := Lib.hid hown
               have HYd := Lib.hid hYd
               have HWd := Lib.hid hWd
               have hbe := hYd.box.grown hg (own_neT hYd.r2 hYd.box (by decide))
               have HBe := Lib.hid hbe
               clear hown hg hYd hWd hbl hbe hbd
               (refine anyB_quiet_at (by kernel_rfl) calm_panic xs_ 1 [9] _ _ (by kernel_rfl) (by decide +kernel) ?_; simp only [pickB, List.filterMap_cons, List.filterMap_nil, List.getElem?_toArray, List.getElem?_cons_zero, List.getElem?_cons_succ]; (repeat (first | ((first | (with_reducible refine quietL_plain rfl (fun K hK => ?_)) | (with_reducible refine quietL_want (by with_unfolding_all rfl) (fun K hK => ?_))); (apply Exists.intro; refine ⟨fun wx hx => ?_, ?_⟩; (· (have hcx := ifs_ex hx); simp [go_sem, *, ↓IntWalk.iteOmega] <;> (first | rfl | exact ⟨rfl, rfl⟩ | fail)); (simp only [Act.put, List.setIfInBounds_toArray, List.set_cons_zero, List.set_cons_succ]; refine hK _ ?_; clear hK K))) | ((with_reducible refine quietL_skip (by with_unfolding_all rfl) ?_); simp only [Act.put, List.setIfInBounds_toArray, List.set_cons_zero, List.set_cons_succ]))); refine quietL_nil ?_)
               refine anyB_one (i := 10) (by kernel_rfl) rfl rfl ?_
               intro wf hbf K hK
               have bg := HBe.out.kept hbf
               have cgf := bg.cell
               have fgf := bg.frozen
               have lgf := bg.lt
               have HN := Lib.hid (HAp.out _ _ _ _ HYd.out (grown_then HG.out hbf) (HO.out.kept hbf))
               have HFr := Lib.hid (((((Fr3.refl (w1.heap.size + 1) w1.heap.size 66 68 72 w5 HR5.out.le).below HWd.out).grown (by decide) HYd.out.r2 HG.out).below hbf).set (.inl rfl) 2 (.slice (some ⟨g', 0, none⟩) (z.p.length + 1) cap'))
               clear bg
               go_wp2
               refine ⟨xs_, ?_⟩
               refine anyB_end (by kernel_rfl) ?_
               intro wm hbm
               simp only [Calm]
               have HN2 := Lib.hid (HN.out.kept hbm)
               have HFr2 := Lib.hid (HFr.out.below hbm)
               clear HN HFr HG HO HYd HWd HBe
               have HAf := Lib.hid (HR5.out.after HN2.out HFr2.out)
               clear HN2 HFr2
               go_wp2_with fail
               go_roundw
               case rel => exact ⟨k + 1, _, by omega, by go_num, HRN, HAf.out⟩
               case measure => simp [intOf]; omega
      · skip
        as_aux_lemma =>
         have ow0 := own_live HO2.out 0 (by simp)
         have cw0 : w2.cell? ⟨g2, 0, none⟩ = some (.string ⟨earthL.toArray⟩) := ow0.1
         clear ow0
         have ow1 := own_live HO2.out 1 (by simp)
         have cw1 : w2.cell? ⟨g2, 1, none⟩ = some (.string x1) := ow1.1
         clear ow1
         have ow2 := own_live HO2.out 2 (by simp)
         have cw2 : w2.cell? ⟨g2, 2, none⟩ = some (.string x2) := ow2.1
         clear ow2
         have ow3 := own_live HO2.out 3 (by simp)
         have cw3 : w2.cell? ⟨g2, 3, none⟩ = some (.string x3) := ow3.1
         clear ow3
         have hk1 : ((⟨earthL.toArray⟩ : ByteArray).toList == [115, 101, 99, 116, 105, 111, 110]) = false := by rw [toList_data]; rfl
         have hk2 : ((⟨earthL.toArray⟩ : ByteArray).toList == [112, 101, 114, 109, 105, 116]) = false := by rw [toList_data]; rfl
         have hn1 := HLz.out.w
         have hn2 := HLz.out.p
         have hn0 := HLz.out.s
         have HV : Hid (rpR z [⟨earthL.toArray⟩, x1, x2, x3] = if decide (0 < z.p.length) then (25, z) else if decide (secAtB z x2 < 0) then (10, z) else (0, { z with w := z.w ++ [⟨x1, ⟨earthL.toArray⟩, secAtB z x2, -1, x3.toList == closedL⟩] })) := Lib.hid (by
          have k1 : ((wAt [⟨earthL.toArray⟩, x1, x2, x3] 0).toList == sectionL) = false := hk1
          have k2 : ((wAt [⟨earthL.toArray⟩, x1, x2, x3] 0).toList == permitL) = false := hk2
          have k3 : wAt [⟨earthL.toArray⟩, x1, x2, x3] 2 = x2 := rfl
          have k4 : decide ([⟨earthL.toArray⟩, x1, x2, x3].length = 5) = false := rfl
          unfold rpR
          rw [hf, k1, k2, k3, k4]
          dsimp only
          cases hd : decide (0 < z.p.length) <;> cases hd2 : decide (secAtB z x2 < 0) <;> rfl)
         have hcl : (x3.toList == [99, 108, 111, 115, 101, 100]) = (x3.toList == closedL) := rfl
         generalize (⟨earthL.toArray⟩ : ByteArray) = xx at *
         generalize (x3.toList == closedL) = cl at *
         by_cases hd : 0 < z.p.length
         · skip
           as_aux_lemma =>
            have hEe := HEr.out 25 (by rw [HV.out, if_pos (by simpa using hd)]) (by decide)
            have hdI : (0 : Int) < (z.p.length : Int) := by omega
            clear HEr HRp HV HLW
            go_wp2_with fail
            refine bodyPost_ret (v := .tuple #[.agg #[.slice none 0 0, .slice none 0 0, .slice none 0 0], .int .i64 (k : Int), .int .i64 25]) ?_ rfl ?_
            · have ck := ((((HR2.out.q2.set_ 0 (.slice none 0 0)).set_ 1 (.slice none 0 0)).set_ 2 (.slice none 0 0))).cell
              simp [results, Tryz.results76, go_sem, ck]
            · try rw [hEe]
              exact ⟨none, none, none, 0, 0, 0, rfl, ⟨Reads.nil_, Reads.nil_, Reads.nil_⟩, ((HR2.out.low.setCell (p := ⟨w.heap.size, 0, none⟩) (Nat.le_refl _) _).setCell (p := ⟨w.heap.size, 1, none⟩) (Nat.le_refl _) _).setCell (p := ⟨w.heap.size, 2, none⟩) (Nat.le_refl _) _⟩
         · skip
           as_aux_lemma =>
            have hdI : ¬ (0 : Int) < (z.p.length : Int) := by omega
            have HV2 : Hid (rpR z [xx, x1, x2, x3] = if decide (secAtB z x2 < 0) then (10, z) else (0, { z with w := z.w ++ [⟨x1, xx, secAtB z x2, -1, cl⟩] })) := Lib.hid (by rw [HV.out, if_neg (by simpa using hd)])
            clear HV HLW
            have HFS := Lib.hid (fun W (hW : Below w2.heap.size w2 W) => FindSec_any w2.heap.size A0 A1 A2 z.s.length z.w.length z.p.length c0 c1 c2 z x2 W (HYa.out.below hW) hW.size (by omega))
            generalize secAtB z x2 = si at *
            go_wp2_with fail
            (refine wp_region_calm [] [0, 1, 2, 3, 4, 5, 6, 7] 2 (by kernel_rfl) rfl (by kernel_rfl) (by kernel_rfl) (by kernel_rfl) ?_; simp only [pickB, List.filterMap_cons, List.filterMap_nil, List.getElem?_toArray, List.getElem?_cons_zero, List.getElem?_cons_succ]; (repeat (first | ((first | (with_reducible refine quietL_plain rfl (fun K hK => ?_)) | (with_reducible refine quietL_want (by with_unfolding_all rfl) (fun K hK => ?_))); (apply Exists.intro; refine ⟨fun wx hx => ?_, ?_⟩; (· (have hcx := ifs_ex hx); simp [go_sem, *, ↓IntWalk.iteOmega] <;> (first | rfl | exact ⟨rfl, rfl⟩ | (have hbx := Ex.below hx; exact calls_B (HFS.out _ hbx)))); (simp only [Act.put, List.setIfInBounds_toArray, List.set_cons_zero, List.set_cons_succ]; refine hK _ ?_; clear hK K))) | ((with_reducible refine quietL_skip (by with_unfolding_all rfl) ?_); simp only [Act.put, List.setIfInBounds_toArray, List.set_cons_zero, List.set_cons_succ]))); refine quietL_nil ?_)
            (refine anyB_one (i := 8) (by kernel_rfl) rfl rfl ?_; intro w3 hb3 K hK; have hs3 := hb3.size; (try simp at hs3); go_wp2; refine ⟨xs_, ?_⟩)
            (refine anyB_one (i := 9) (by kernel_rfl) rfl rfl ?_; intro w4 hb4 K hK; have hs4 := hb4.size; (try simp at hs4); go_wp2; refine ⟨xs_, ?_⟩)
            (refine anyB_end (by kernel_rfl) ?_; intro w5 hb5; have hs5 := hb5.size; (try simp at hs5); simp only [Calm])
            have hb25 : Below w2.heap.size w2 w5 := bl_
            have HR5 := Lib.hid (HR2.out.kept hb25)
            have HY5 := Lib.hid (HY.out.kept hb25)
            have HO5 := Lib.hid (own_kept HO2.out hb25)
            have HYa5 := Lib.hid ((HYa.out.below hb25).more hb25.size)
            have hs25 := hb25.size
            clear hb25 hb3 hb4 hb5 cg lg fg cb fb lb HFS
            have cg5 := HY5.out.box.cell
            have lg5 := HY5.out.box.lt
            have fg5 := HY5.out.box.frozen
            have cb5 := HR5.out.q2.cell
            have fb5 := HR5.out.q2.frozen
            have lb5 := HR5.out.q2.lt
            have ow0 := own_live HO5.out 0 (by simp)
            have cw0 : w5.cell? ⟨g2, 0, none⟩ = some (.string xx) := ow0.1
            clear ow0
            clear cw1 cw2 cw3
            by_cases ha : si < 0
            · skip
              as_aux_lemma =>
               have hEe := HEr.out 10 (by rw [HV2.out, if_pos (by simpa using ha)]) (by decide)
               clear HEr HRp HV2
               go_wp2_with fail
               refine bodyPost_ret (v := .tuple #[.agg #[.slice none 0 0, .slice none 0 0, .slice none 0 0], .int .i64 (k : Int), .int .i64 10]) ?_ rfl ?_
               · have ck := ((((HR5.out.q2.set_ 0 (.slice none 0 0)).set_ 1 (.slice none 0 0)).set_ 2 (.slice none 0 0))).cell
                 simp [results, Tryz.results76, go_sem, ck]
               · try rw [hEe]
                 exact ⟨none, none, none, 0, 0, 0, rfl, ⟨Reads.nil_, Reads.nil_, Reads.nil_⟩, ((HR5.out.low.setCell (p := ⟨w.heap.size, 0, none⟩) (Nat.le_refl _) _).setCell (p := ⟨w.heap.size, 1, none⟩) (Nat.le_refl _) _).setCell (p := ⟨w.heap.size, 2, none⟩) (Nat.le_refl _) _⟩
            · skip
              as_aux_lemma =>
               have HRN := Lib.hid (HRp.out { z with w := z.w ++ [⟨x1, xx, si, -1, cl⟩] } (by rw [HV2.out, if_neg (by simpa using ha)]))
               clear HEr HRp HV2
               have ow1 := own_live HO5.out 1 (by simp)
               have cw1 : w5.cell? ⟨g2, 1, none⟩ = some (.string x1) := ow1.1
               clear ow1
               have ow3 := own_live HO5.out 3 (by simp)
               have cw3 : w5.cell? ⟨g2, 3, none⟩ = some (.string x3) := ow3.1
               clear ow3
               obtain ⟨r0, hr0, hr1, hr2⟩ : ∃ r0, (∀ r, (Value.slice A1 z.w.length c1).ownBlock = some r → r = r0) ∧ r0 < w5.heap.size ∧ g2 ≠ r0 := by
                cases h : (Value.slice A1 z.w.length c1).ownBlock with
                | none => exact ⟨w1.heap.size, fun r e => (by cases e), lg5, by omega⟩
                | some r =>
                 refine ⟨r, fun z e => (by cases e; rfl), (HY5.out.r1.lt r h).2, fun e => ?_⟩
                 obtain ⟨_, d, f, hd⟩ := own_row HY5.out.r1 h
                 obtain ⟨_, d', f', hd'⟩ := own_row HO5.out (k := g2) rfl
                 rw [e, hd] at hd'
                 simp at hd'
               have HR0 := Lib.hid hr0
               clear hr0
               have HAp : Hid (∀ U V g' cap', YdO (w1.heap.size + 1) w1.heap.size 26 66 68 72 z (.slice A0 z.s.length c0) (.slice A1 z.w.length c1) (.slice A2 z.p.length c2) U → U.grownBy V (Value.slice A1 z.w.length c1).ownBlock → Own V (w1.heap.size + 1) 68 5 g' (z.w.length + 1) cap' (sws z.w ++ (#[.string x1, .string xx, .int .i64 si, .int .i64 (-1), .bool cl] : Array Value).toList) → YdO (w1.heap.size + 1) w1.heap.size 26 66 68 72 { z with w := z.w ++ [⟨x1, xx, si, -1, cl⟩] } (.slice A0 z.s.length c0) (.slice (some ⟨g', 0, none⟩) (z.w.length + 1) cap') (.slice A2 z.p.length c2) (V.setCell ⟨w1.heap.size, 1, none⟩ (.slice (some ⟨g', 0, none⟩) (z.w.length + 1) cap'))) :=
                Lib.hid fun U V g' cap' h hg ho => h.app1 (x := ⟨x1, xx, si, -1, cl⟩) (by decide) (by decide) (by decide) (by decide) (by decide) hg ho
               have hw3 : IntKind.i64.wrap 3 = 3 := by rw [IntKind.wrap_i64]; decide
               have hw43 : IntKind.i64.wrap (4 - 1) = 3 := by rw [IntKind.wrap_i64]; decide
               go_wp2_with fail
               (refine wp_region_calm [w1.heap.size, r0] [0, 2, 3, 4, 5, 6, 7, 8, 9, 10, 11, 12, 13, 14, 15, 16, 17] 5 (by kernel_rfl) rfl (by kernel_rfl) (by kernel_rfl) (by kernel_rfl) ?_; simp only [pickB, List.filterMap_cons, List.filterMap_nil, List.getElem?_toArray, List.getElem?_cons_zero, List.getElem?_cons_succ]; (iterate 16 (first | ((with_reducible refine quietL_plain rfl (fun K hK => ?_)); (apply Exists.intro; refine ⟨fun wx hx => ?_, ?_⟩; (· (have hcx := ifs_ex hx); simp [go_sem, *, ↓IntWalk.iteOmega] <;> (first | rfl | exact ⟨rfl, rfl⟩ | fail)); (simp only [Act.put, List.setIfInBounds_toArray, List.set_cons_zero, List.set_cons_succ]; refine hK _ ?_; clear hK K))) | ((with_reducible refine quietL_skip (by with_unfolding_all rfl) ?_); simp only [Act.put, List.setIfInBounds_toArray, List.set_cons_zero, List.set_cons_succ]) | ((with_reducible refine quietL_want (by with_unfolding_all rfl) (fun K hK => ?_)); (apply Exists.intro; refine ⟨fun wx hx => ?_, ?_⟩; (· (have hcx := ifs_ex hx); simp [go_sem, *, ↓IntWalk.iteOmega] <;> (first | rfl | exact ⟨rfl, rfl⟩ | fail)); (simp only [Act.put, List.setIfInBounds_toArray, List.set_cons_zero, List.set_cons_succ]; refine hK _ ?_; clear hK K))))); ((with_reducible refine quietL_plain rfl (fun K hK => ?_)); refine ⟨.agg #[.string x1, .string xx, .int .i64 si, .int .i64 (-1), .bool cl], fun wx hx => quiet_bl 68 _ [(0, .string x1), (1, .string xx), (2, .int .i64 si), (3, .int .i64 (-1)), (4, .bool cl)] #[.string x1, .string xx, .int .i64 si, .int .i64 (-1), .bool cl] rfl rfl (by kernel_rfl), ?_⟩; simp only [Act.put, List.setIfInBounds_toArray, List.set_cons_zero, List.set_cons_succ]; refine hK _ ?_; clear hK K); refine quietL_nil ?_)
               as_aux_lemma =>
                refine anyB_two (i := 1) (j := 18) (by kernel_rfl) rfl rfl rfl rfl ?_ ?_
                · intro w8 hb8 K hK
                  have cg8 := (HY5.out.kept hb8).box.cell
                  have hs8 := hb8.size
                  go_wp2
                  refine ⟨xs_, ?_⟩
                  refine anyB_one (i := 18) (by kernel_rfl) rfl rfl ?_
                  intro w9 hb9 K hK
                  have hs9 := hb9.size
                  refine wp_bs 23 68 (.tmp 144) (.agg #[.string x1, .string xx, .int .i64 si, .int .i64 (-1), .bool cl]) #[.string x1, .string xx, .int .i64 si, .int .i64 (-1), .bool cl] rfl rfl (by kernel_rfl) (hK _ _ ⟨xs_, ?_⟩)
                  clear hK K
                  have HBL : Hid (∀ W', Below (w9.alloc (.cells #[.string x1, .string xx, .int .i64 si, .int .i64 (-1), .bool cl] 68)).heap.size (w9.alloc (.cells #[.string x1, .string xx, .int .i64 si, .int .i64 (-1), .bool cl] 68)) W' → Blk W' w9.heap.size 68 #[.string x1, .string xx, .int .i64 si, .int .i64 (-1), .bool cl]) := Lib.hid fun W' h => (Blk.new _ _ _).kept h
                  have HLow : Hid (∀ W', Below (w9.alloc (.cells #[.string x1, .string xx, .int .i64 si, .int .i64 (-1), .bool cl] 68)).heap.size (w9.alloc (.cells #[.string x1, .string xx, .int .i64 si, .int .i64 (-1), .bool cl] 68)) W' → Below w5.heap.size w5 W') := Lib.hid fun W' h => (((hb8.trans (hb9.mono hs8)).alloc (by omega) _).trans (h.mono (by simp; omega)))
                  as_aux_lemma =>
                   refine anyB_one (i := 19) (by kernel_rfl) rfl rfl ?_
                   intro wd hbd K hK
                   have hWd := HLow.out wd hbd
                   have hYd := HY5.out.kept hWd
                   have hbl := HBL.out wd hbd
                   have hsd := hWd.size
                   refine wp_appB 23 68 5 56 elemSwR (.tmp 128) (.tmp 145) rfl (w1.heap.size + 1) _ _ _ rfl hYd.r1 w9.heap.size 1 _ rfl hbl rfl ?_ (by decide) ?_ ?_ ?_ ?_
                   · intro u hu; simp at hu; first | (rcases hu with rfl | rfl <;> rfl) | (rcases hu with rfl | rfl | rfl | rfl | rfl <;> rfl)
                   · unfold maxLen; omega
                   · omega
                   · omega
                   intro g' cap' we hown hg hat
                   have hXe : Ex [w1.heap.size, r0] w5 we := (Ex.of_below hWd).trans (Ex.of_grown hg (fun r e => by rw [HR0.out r e]; simp))
                   refine hK _ _ ⟨hXe, ?_⟩
                   clear hK K hat
                   have HG := Lib.hid hg
                   have HO := Lib.hid hown
                   have HYd := Lib.hid hYd
                   have HWd := Lib.hid hWd
                   have hbe := hYd.box.grown hg (own_neT hYd.r1 hYd.box (by decide))
                   have HBe := Lib.hid hbe
                   clear hown hg hYd hWd hbl hbe hbd
                   (refine anyB_quiet_at (by kernel_rfl) calm_panic xs_ 1 [20] _ _ (by kernel_rfl) (by decide +kernel) ?_; simp only [pickB, List.filterMap_cons, List.filterMap_nil, List.getElem?_toArray, List.getElem?_cons_zero, List.getElem?_cons_succ]; (repeat (first | ((first | (with_reducible refine quietL_plain rfl (fun K hK => ?_)) | (with_reducible refine quietL_want (by with_unfolding_all rfl) (fun K hK => ?_))); (apply Exists.intro; refine ⟨fun wx hx => ?_, ?_⟩; (· (have hcx := ifs_ex hx); simp [go_sem, *, ↓IntWalk.iteOmega] <;> (first | rfl | exact ⟨rfl, rfl⟩ | fail)); (simp only [Act.put, List.setIfInBounds_toArray, List.set_cons_zero, List.set_cons_succ]; refine hK _ ?_; clear hK K))) | ((with_reducible refine quietL_skip (by with_unfolding_all rfl) ?_); simp only [Act.put, List.setIfInBounds_toArray, List.set_cons_zero, List.set_cons_succ]))); refine quietL_nil ?_)
                   refine anyB_one (i := 21) (by kernel_rfl) rfl rfl ?_
                   intro wf hbf K hK
                   have bg := HBe.out.kept hbf
                   have cgf := bg.cell
                   have fgf := bg.frozen
                   have lgf := bg.lt
                   have HN := Lib.hid (HAp.out _ _ _ _ HYd.out (grown_then HG.out hbf) (HO.out.kept hbf))
                   have HFr := Lib.hid (((((Fr3.refl (w1.heap.size + 1) w1.heap.size 66 68 72 w5 HR5.out.le).below HWd.out).grown (by decide) HYd.out.r1 HG.out).below hbf).set (.inl rfl) 1 (.slice (some ⟨g', 0, none⟩) (z.w.length + 1) cap'))
                   clear bg
                   go_wp2
                   refine ⟨xs_, ?_⟩
                   refine anyB_end (by kernel_rfl) ?_
                   intro wm hbm
                   simp only [Calm]
                   have HN2 := Lib.hid (HN.out.kept hbm)
                   have HFr2 := Lib.hid (HFr.out.below hbm)
                   clear HN HFr HG HO HYd HWd HBe
                   have HAf := Lib.hid (HR5.out.after HN2.out HFr2.out)
                   clear HN2 HFr2
                   go_wp2_with fail
                   go_roundw
                   case rel => exact ⟨k + 1, _, by omega, by go_num, HRN, HAf.out⟩
                   case measure => simp [intOf]; omega
                · intro w8 hb8 K hK
                  have hs8 := hb8.size
                  refine wp_bs 23 68 (.tmp 144) (.agg #[.string x1, .string xx, .int .i64 si, .int .i64 (-1), .bool cl]) #[.string x1, .string xx, .int .i64 si, .int .i64 (-1), .bool cl] rfl rfl (by kernel_rfl) (hK _ _ ⟨xs_, ?_⟩)
                  clear hK K
                  refine anyB_one (i := 1) (by kernel_rfl) rfl rfl ?_
                  intro w9 hb9 K hK
                  have hl9 : Below w5.heap.size w5 w9 := (hb8.alloc hs8 _).trans (hb9.mono (by simp; omega))
                  have cg9 := (HY5.out.kept hl9).box.cell
                  have hs9 := hl9.size
                  have HL9 := Lib.hid hl9
                  have HBL : Hid (∀ W', Below w9.heap.size w9 W' → Blk W' w8.heap.size 68 #[.string x1, .string xx, .int .i64 si, .int .i64 (-1), .bool cl]) := Lib.hid fun W' h => ((Blk.new _ _ _).kept hb9).kept h
                  have HLow : Hid (∀ W', Below w9.heap.size w9 W' → Below w5.heap.size w5 W') := Lib.hid fun W' h => HL9.out.trans (h.mono hs9)
                  clear hl9
                  go_wp2
                  refine ⟨xs_, ?_⟩
                  as_aux_lemma =>
                   refine anyB_one (i := 19) (by kernel_rfl) rfl rfl ?_
                   intro wd hbd K hK
                   have hWd := HLow.out wd hbd
                   have hYd := HY5.out.kept hWd
                   have hbl := HBL.out wd hbd
                   have hsd := hWd.size
                   refine wp_appB 23 68 5 56 elemSwR (.tmp 128) (.tmp 145) rfl (w1.heap.size + 1) _ _ _ rfl hYd.r1 w8.heap.size 1 _ rfl hbl rfl ?_ (by decide) ?_ ?_ ?_ ?_
                   · intro u hu; simp at hu; first | (rcases hu with rfl | rfl <;> rfl) | (rcases hu with rfl | rfl | rfl | rfl | rfl <;> rfl)
                   · unfold maxLen; omega
                   · omega
                   · omega
                   intro g' cap' we hown hg hat
                   have hXe : Ex [w1.heap.size, r0] w5 we := (Ex.of_below hWd).trans (Ex.of_grown hg (fun r e => by rw [HR0.out r e]; simp))
                   refine hK _ _ ⟨hXe, ?_⟩
                   clear hK K hat
                   have HG := Lib.hid hg
                   have HO := Lib.hid hown
                   have HYd := Lib.hid hYd
                   have HWd := Lib.hid hWd
                   have hbe := hYd.box.grown hg (own_neT hYd.r1 hYd.box (by decide))
                   have HBe := Lib.hid hbe
                   clear hown hg hYd hWd hbl hbe hbd
                   (refine anyB_quiet_at (by kernel_rfl) calm_panic xs_ 1 [20] _ _ (by kernel_rfl) (by decide +kernel) ?_; simp only [pickB, List.filterMap_cons, List.filterMap_nil, List.getElem?_toArray, List.getElem?_cons_zero, List.getElem?_cons_succ]; (repeat (first | ((first | (with_reducible refine quietL_plain rfl (fun K hK => ?_)) | (with_reducible refine quietL_want (by with_unfolding_all rfl) (fun K hK => ?_))); (apply Exists.intro; refine ⟨fun wx hx => ?_, ?_⟩; (· (have hcx := ifs_ex hx); simp [go_sem, *, ↓IntWalk.iteOmega] <;> (first | rfl | exact ⟨rfl, rfl⟩ | fail)); (simp only [Act.put, List.setIfInBounds_toArray, List.set_cons_zero, List.set_cons_succ]; refine hK _ ?_; clear hK K))) | ((with_reducible refine quietL_skip (by with_unfolding_all rfl) ?_); simp only [Act.put, List.setIfInBounds_toArray, List.set_cons_zero, List.set_cons_succ]))); refine quietL_nil ?_)
                   refine anyB_one (i := 21) (by kernel_rfl) rfl rfl ?_
                   intro wf hbf K hK
                   have bg := HBe.out.kept hbf
                   have cgf := bg.cell
                   have fgf := bg.frozen
                   have lgf := bg.lt
                   have HN := Lib.hid (HAp.out _ _ _ _ HYd.out (grown_then HG.out hbf) (HO.out.kept hbf))
                   have HFr := Lib.hid (((((Fr3.refl (w1.heap.size + 1) w1.heap.size 66 68 72 w5 HR5.out.le).below HWd.out).grown (by decide) HYd.out.r1 HG.out).below hbf).set (.inl rfl) 1 (.slice (some ⟨g', 0, none⟩) (z.w.length + 1) cap'))
                   clear bg
                   go_wp2
                   refine ⟨xs_, ?_⟩
                   refine anyB_end (by kernel_rfl) ?_
                   intro wm hbm
                   simp only [Calm]
                   have HN2 := Lib.hid (HN.out.kept hbm)
                   have HFr2 := Lib.hid (HFr.out.below hbm)
                   clear HN HFr HG HO HYd HWd HBe
                   have HAf := Lib.hid (HR5.out.after HN2.out HFr2.out)
                   clear HN2 HFr2
                   go_wp2_with fail
                   go_roundw
                   case rel => exact ⟨k + 1, _, by omega, by go_num, HRN, HAf.out⟩
                   case measure => simp [intOf]; omega
      · skip
        as_aux_lemma =>
         have ow0 := own_live HO2.out 0 (by simp)
         have cw0 : w2.cell? ⟨g2, 0, none⟩ = some (.string x0) := ow0.1
         clear ow0
         have ow1 := own_live HO2.out 1 (by simp)
         have cw1 : w2.cell? ⟨g2, 1, none⟩ = some (.string x1) := ow1.1
         clear ow1
         have ow2 := own_live HO2.out 2 (by simp)
         have cw2 : w2.cell? ⟨g2, 2, none⟩ = some (.string x2) := ow2.1
         clear ow2
         have ow3 := own_live HO2.out 3 (by simp)
         have cw3 : w2.cell? ⟨g2, 3, none⟩ = some (.string x3) := ow3.1
         clear ow3
         have ow4 := own_live HO2.out 4 (by simp)
         have cw4 : w2.cell? ⟨g2, 4, none⟩ = some (.string x4) := ow4.1
         clear ow4
         have hk1 : (x0.toList == [115, 101, 99, 116, 105, 111, 110]) = false := hx0
         have hk2 : (x0.toList == [112, 101, 114, 109, 105, 116]) = false := hx0'
         have hn1 := HLz.out.w
         have hn2 := HLz.out.p
         have hn0 := HLz.out.s
         have HV : Hid (rpR z [x0, x1, x2, x3, x4] = if decide (0 < z.p.length) then (25, z) else if decide (secAtB z x2 < 0) || decide (secAtB z x3 < 0) then (10, z) else (0, { z with w := z.w ++ [⟨x1, x0, secAtB z x2, secAtB z x3, x4.toList == closedL⟩] })) := Lib.hid (by
          have k1 : ((wAt [x0, x1, x2, x3, x4] 0).toList == sectionL) = false := hk1
          have k2 : ((wAt [x0, x1, x2, x3, x4] 0).toList == permitL) = false := hk2
          have k3 : wAt [x0, x1, x2, x3, x4] 2 = x2 := rfl
          have k5 : wAt [x0, x1, x2, x3, x4] 3 = x3 := rfl
          have k4 : decide ([x0, x1, x2, x3, x4].length = 5) = true := rfl
          unfold rpR
          rw [hf, k1, k2, k3, k4, k5, if_pos (show [x0, x1, x2, x3, x4].length = 5 from rfl)]
          dsimp only
          cases hd : decide (0 < z.p.length) <;> cases hd2 : decide (secAtB z x2 < 0) <;> cases hd3 : decide (secAtB z x3 < 0) <;> rfl)
         have hcl : (x4.toList == [99, 108, 111, 115, 101, 100]) = (x4.toList == closedL) := rfl
         generalize (x4.toList == closedL) = cl at *
         clear hx0 hx0'
         by_cases hd : 0 < z.p.length
         · skip
           as_aux_lemma =>
            have hEe := HEr.out 25 (by rw [HV.out, if_pos (by simpa using hd)]) (by decide)
            have hdI : (0 : Int) < (z.p.length : Int) := by omega
            clear HEr HRp HV HLW
            go_wp2_with fail
            refine bodyPost_ret (v := .tuple #[.agg #[.slice none 0 0, .slice none 0 0, .slice none 0 0], .int .i64 (k : Int), .int .i64 25]) ?_ rfl ?_
            · have ck := ((((HR2.out.q2.set_ 0 (.slice none 0 0)).set_ 1 (.slice none 0 0)).set_ 2 (.slice none 0 0))).cell
              simp [results, Tryz.results76, go_sem, ck]
            · try rw [hEe]
              exact ⟨none, none, none, 0, 0, 0, rfl, ⟨Reads.nil_, Reads.nil_, Reads.nil_⟩, ((HR2.out.low.setCell (p := ⟨w.heap.size, 0, none⟩) (Nat.le_refl _) _).setCell (p := ⟨w.heap.size, 1, none⟩) (Nat.le_refl _) _).setCell (p := ⟨w.heap.size, 2, none⟩) (Nat.le_refl _) _⟩
         · skip
           as_aux_lemma =>
            have hdI : ¬ (0 : Int) < (z.p.length : Int) := by omega
            have HV2 : Hid (rpR z [x0, x1, x2, x3, x4] = if decide (secAtB z x2 < 0) || decide (secAtB z x3 < 0) then (10, z) else (0, { z with w := z.w ++ [⟨x1, x0, secAtB z x2, secAtB z x3, cl⟩] })) := Lib.hid (by rw [HV.out, if_neg (by simpa using hd)])
            clear HV HLW
            have HFS := Lib.hid (fun W (hW : Below w2.heap.size w2 W) => FindSec_any w2.heap.size A0 A1 A2 z.s.length z.w.length z.p.length c0 c1 c2 z x2 W (HYa.out.below hW) hW.size (by omega))
            generalize secAtB z x2 = si at *
            go_wp2_with fail
            (refine wp_region_calm [] [0, 1, 2, 3, 4, 5, 6, 7] 2 (by kernel_rfl) rfl (by kernel_rfl) (by kernel_rfl) (by kernel_rfl) ?_; simp only [pickB, List.filterMap_cons, List.filterMap_nil, List.getElem?_toArray, List.getElem?_cons_zero, List.getElem?_cons_succ]; (repeat (first | ((first | (with_reducible refine quietL_plain rfl (fun K hK => ?_)) | (with_reducible refine quietL_want (by with_unfolding_all rfl) (fun K hK => ?_))); (apply Exists.intro; refine ⟨fun wx hx => ?_, ?_⟩; (· (have hcx := ifs_ex hx); simp [go_sem, *, ↓IntWalk.iteOmega] <;> (first | rfl | exact ⟨rfl, rfl⟩ | (have hbx := Ex.below hx; exact calls_B (HFS.out _ hbx)))); (simp only [Act.put, List.setIfInBounds_toArray, List.set_cons_zero, List.set_cons_succ]; refine hK _ ?_; clear hK K))) | ((with_reducible refine quietL_skip (by with_unfolding_all rfl) ?_); simp only [Act.put, List.setIfInBounds_toArray, List.set_cons_zero, List.set_cons_succ]))); refine quietL_nil ?_)
            (refine anyB_one (i := 8) (by kernel_rfl) rfl rfl ?_; intro w3 hb3 K hK; have hs3 := hb3.size; (try simp at hs3); go_wp2; refine ⟨xs_, ?_⟩)
            (refine anyB_one (i := 9) (by kernel_rfl) rfl rfl ?_; intro w4 hb4 K hK; have hs4 := hb4.size; (try simp at hs4); go_wp2; refine ⟨xs_, ?_⟩)
            (refine anyB_end (by kernel_rfl) ?_; intro w5 hb5; have hs5 := hb5.size; (try simp at hs5); simp only [Calm])
            have hb25 : Below w2.heap.size w2 w5 := bl_
            have HR5 := Lib.hid (HR2.out.kept hb25)
            have HY5 := Lib.hid (HY.out.kept hb25)
            have HO5 := Lib.hid (own_kept HO2.out hb25)
            have HYa5 := Lib.hid ((HYa.out.below hb25).more hb25.size)
            have hs25 := hb25.size
            clear hb25 hb3 hb4 hb5 cg lg fg cb fb lb HFS
            have cg5 := HY5.out.box.cell
            have lg5 := HY5.out.box.lt
            have fg5 := HY5.out.box.frozen
            have cb5 := HR5.out.q2.cell
            have fb5 := HR5.out.q2.frozen
            have lb5 := HR5.out.q2.lt
            have ow0 := own_live HO5.out 0 (by simp)
            have cw0 : w5.cell? ⟨g2, 0, none⟩ = some (.string x0) := ow0.1
            clear ow0
            have ow3 := own_live HO5.out 3 (by simp)
            have cw3 : w5.cell? ⟨g2, 3, none⟩ = some (.string x3) := ow3.1
            clear ow3
            clear cw1 cw2 cw4
            as_aux_lemma =>
             have HFS := Lib.hid (fun W (hW : Below w5.heap.size w5 W) => FindSec_any w5.heap.size A0 A1 A2 z.s.length z.w.length z.p.length c0 c1 c2 z x3 W (HYa5.out.below hW) hW.size (by omega))
             generalize secAtB z x3 = si3 at *
             go_wp2_with fail
             (refine wp_region_calm [] [0, 1, 2, 3, 4, 5, 6, 7] 1 (by kernel_rfl) rfl (by kernel_rfl) (by kernel_rfl) (by kernel_rfl) ?_; simp only [pickB, List.filterMap_cons, List.filterMap_nil, List.getElem?_toArray, List.getElem?_cons_zero, List.getElem?_cons_succ]; (repeat (first | ((first | (with_reducible refine quietL_plain rfl (fun K hK => ?_)) | (with_reducible refine quietL_want (by with_unfolding_all rfl) (fun K hK => ?_))); (apply Exists.intro; refine ⟨fun wx hx => ?_, ?_⟩; (· (have hcx := ifs_ex hx); simp [go_sem, *, ↓IntWalk.iteOmega] <;> (first | rfl | exact ⟨rfl, rfl⟩ | (have hbx := Ex.below hx; exact calls_B (HFS.out _ hbx)))); (simp only [Act.put, List.setIfInBounds_toArray, List.set_cons_zero, List.set_cons_succ]; refine hK _ ?_; clear hK K))) | ((with_reducible refine quietL_skip (by with_unfolding_all rfl) ?_); simp only [Act.put, List.setIfInBounds_toArray, List.set_cons_zero, List.set_cons_succ]))); refine quietL_nil ?_)
             (refine anyB_one (i := 8) (by kernel_rfl) rfl rfl ?_; intro w6 hb6 K hK; have hs6 := hb6.size; (try simp at hs6); go_wp2; refine ⟨xs_, ?_⟩)
             (refine anyB_end (by kernel_rfl) ?_; intro w7 hb7; have hs7 := hb7.size; (try simp at hs7); simp only [Calm])
             have hb57 : Below w5.heap.size w5 w7 := bl_
             have HR7 := Lib.hid (HR5.out.kept hb57)
             have HY7 := Lib.hid (HY5.out.kept hb57)
             have HO7 := Lib.hid (own_kept HO5.out hb57)
             have hs57 := hb57.size
             clear hb57 hb6 hb7 cg5 lg5 fg5 cb5 fb5 lb5 HFS
             have cg7 := HY7.out.box.cell
             have lg7 := HY7.out.box.lt
             have fg7 := HY7.out.box.frozen
             have cb7 := HR7.out.q2.cell
             have fb7 := HR7.out.q2.frozen
             have lb7 := HR7.out.q2.lt
             have ow0 := own_live HO7.out 0 (by simp)
             have cw0 : w7.cell? ⟨g2, 0, none⟩ = some (.string x0) := ow0.1
             clear ow0
             clear cw3
             by_cases ha : si < 0
             · skip
               as_aux_lemma =>
                have hEe := HEr.out 10 (by rw [HV2.out, if_pos (by simp [ha])]) (by decide)
                clear HEr HRp HV2
                go_wp2_with fail
                refine bodyPost_ret (v := .tuple #[.agg #[.slice none 0 0, .slice none 0 0, .slice none 0 0], .int .i64 (k : Int), .int .i64 10]) ?_ rfl ?_
                · have ck := ((((HR7.out.q2.set_ 0 (.slice none 0 0)).set_ 1 (.slice none 0 0)).set_ 2 (.slice none 0 0))).cell
                  simp [results, Tryz.results76, go_sem, ck]
                · try rw [hEe]
                  exact ⟨none, none, none, 0, 0, 0, rfl, ⟨Reads.nil_, Reads.nil_, Reads.nil_⟩, ((HR7.out.low.setCell (p := ⟨w.heap.size, 0, none⟩) (Nat.le_refl _) _).setCell (p := ⟨w.heap.size, 1, none⟩) (Nat.le_refl _) _).setCell (p := ⟨w.heap.size, 2, none⟩) (Nat.le_refl _) _⟩
             · by_cases ha3 : si3 < 0
               · skip
                 as_aux_lemma =>
                  have hEe := HEr.out 10 (by rw [HV2.out, if_pos (by simp [ha3])]) (by decide)
                  clear HEr HRp HV2
                  go_wp2_with fail
                  refine bodyPost_ret (v := .tuple #[.agg #[.slice none 0 0, .slice none 0 0, .slice none 0 0], .int .i64 (k : Int), .int .i64 10]) ?_ rfl ?_
                  · have ck := ((((HR7.out.q2.set_ 0 (.slice none 0 0)).set_ 1 (.slice none 0 0)).set_ 2 (.slice none 0 0))).cell
                    simp [results, Tryz.results76, go_sem, ck]
                  · try rw [hEe]
                    exact ⟨none, none, none, 0, 0, 0, rfl, ⟨Reads.nil_, Reads.nil_, Reads.nil_⟩, ((HR7.out.low.setCell (p := ⟨w.heap.size, 0, none⟩) (Nat.le_refl _) _).setCell (p := ⟨w.heap.size, 1, none⟩) (Nat.le_refl _) _).setCell (p := ⟨w.heap.size, 2, none⟩) (Nat.le_refl _) _⟩
               · skip
                 as_aux_lemma =>
                  have HRN := Lib.hid (HRp.out { z with w := z.w ++ [⟨x1, x0, si, si3, cl⟩] } (by rw [HV2.out, if_neg (by simp; omega)]))
                  clear HEr HRp HV2
                  have ow1 := own_live HO7.out 1 (by simp)
                  have cw1 : w7.cell? ⟨g2, 1, none⟩ = some (.string x1) := ow1.1
                  clear ow1
                  have ow4 := own_live HO7.out 4 (by simp)
                  have cw4 : w7.cell? ⟨g2, 4, none⟩ = some (.string x4) := ow4.1
                  clear ow4
                  generalize x0 = xx at *
                  obtain ⟨r0, hr0, hr1, hr2⟩ : ∃ r0, (∀ r, (Value.slice A1 z.w.length c1).ownBlock = some r → r = r0) ∧ r0 < w7.heap.size ∧ g2 ≠ r0 := by
                   cases h : (Value.slice A1 z.w.length c1).ownBlock with
                   | none => exact ⟨w1.heap.size, fun r e => (by cases e), lg7, by omega⟩
                   | some r =>
                    refine ⟨r, fun z e => (by cases e; rfl), (HY7.out.r1.lt r h).2, fun e => ?_⟩
                    obtain ⟨_, d, f, hd⟩ := own_row HY7.out.r1 h
                    obtain ⟨_, d', f', hd'⟩ := own_row HO7.out (k := g2) rfl
                    rw [e, hd] at hd'
                    simp at hd'
                  have HR0 := Lib.hid hr0
                  clear hr0
                  have HAp : Hid (∀ U V g' cap', YdO (w1.heap.size + 1) w1.heap.size 26 66 68 72 z (.slice A0 z.s.length c0) (.slice A1 z.w.length c1) (.slice A2 z.p.length c2) U → U.grownBy V (Value.slice A1 z.w.length c1).ownBlock → Own V (w1.heap.size + 1) 68 5 g' (z.w.length + 1) cap' (sws z.w ++ (#[.string x1, .string xx, .int .i64 si, .int .i64 (si3), .bool cl] : Array Value).toList) → YdO (w1.heap.size + 1) w1.heap.size 26 66 68 72 { z with w := z.w ++ [⟨x1, xx, si, si3, cl⟩] } (.slice A0 z.s.length c0) (.slice (some ⟨g', 0, none⟩) (z.w.length + 1) cap') (.slice A2 z.p.length c2) (V.setCell ⟨w1.heap.size, 1, none⟩ (.slice (some ⟨g', 0, none⟩) (z.w.length + 1) cap'))) :=
                   Lib.hid fun U V g' cap' h hg ho => h.app1 (x := ⟨x1, xx, si, si3, cl⟩) (by decide) (by decide) (by decide) (by decide) (by decide) hg ho
                  have hw4 : IntKind.i64.wrap 4 = 4 := by rw [IntKind.wrap_i64]; decide
                  have hw54 : IntKind.i64.wrap (5 - 1) = 4 := by rw [IntKind.wrap_i64]; decide
                  go_wp2_with fail
                  (refine wp_region_calm [w1.heap.size, r0] [0, 2, 3, 4, 5, 6, 7, 8, 9, 10, 11, 12, 13, 14, 15, 16, 17] 5 (by kernel_rfl) rfl (by kernel_rfl) (by kernel_rfl) (by kernel_rfl) ?_; simp only [pickB, List.filterMap_cons, List.filterMap_nil, List.getElem?_toArray, List.getElem?_cons_zero, List.getElem?_cons_succ]; (iterate 16 (first | ((with_reducible refine quietL_plain rfl (fun K hK => ?_)); (apply Exists.intro; refine ⟨fun wx hx => ?_, ?_⟩; (· (have hcx := ifs_ex hx); simp [go_sem, *, ↓IntWalk.iteOmega] <;> (first | rfl | exact ⟨rfl, rfl⟩ | fail)); (simp only [Act.put, List.setIfInBounds_toArray, List.set_cons_zero, List.set_cons_succ]; refine hK _ ?_; clear hK K))) | ((with_reducible refine quietL_skip (by with_unfolding_all rfl) ?_); simp only [Act.put, List.setIfInBounds_toArray, List.set_cons_zero, List.set_cons_succ]) | ((with_reducible refine quietL_want (by with_unfolding_all rfl) (fun K hK => ?_)); (apply Exists.intro; refine ⟨fun wx hx => ?_, ?_⟩; (· (have hcx := ifs_ex hx); simp [go_sem, *, ↓IntWalk.iteOmega] <;> (first | rfl | exact ⟨rfl, rfl⟩ | fail)); (simp only [Act.put, List.setIfInBounds_toArray, List.set_cons_zero, List.set_cons_succ]; refine hK _ ?_; clear hK K))))); ((with_reducible refine quietL_plain rfl (fun K hK => ?_)); refine ⟨.agg #[.string x1, .string xx, .int .i64 si, .int .i64 si3, .bool cl], fun wx hx => quiet_bl 68 _ [(0, .string x1), (1, .string xx), (2, .int .i64 si), (3, .int .i64 si3), (4, .bool cl)] #[.string x1, .string xx, .int .i64 si, .int .i64 si3, .bool cl] rfl rfl (by kernel_rfl), ?_⟩; simp only [Act.put, List.setIfInBounds_toArray, List.set_cons_zero, List.set_cons_succ]; refine hK _ ?_; clear hK K); refine quietL_nil ?_)
                  refine anyB_two (i := 1) (j := 18) (by kernel_rfl) rfl rfl rfl rfl ?_ ?_
                  · intro w8 hb8 K hK
                    have cg8 := (HY7.out.kept hb8).box.cell
                    have hs8 := hb8.size
                    go_wp2
                    refine ⟨xs_, ?_⟩
                    refine anyB_one (i := 18) (by kernel_rfl) rfl rfl ?_
                    intro w9 hb9 K hK
                    have hs9 := hb9.size
                    refine wp_bs 23 68 (.tmp 144) (.agg #[.string x1, .string xx, .int .i64 si, .int .i64 si3, .bool cl]) #[.string x1, .string xx, .int .i64 si, .int .i64 si3, .bool cl] rfl rfl (by kernel_rfl) (hK _ _ ⟨xs_, ?_⟩)
                    clear hK K
                    have HBL : Hid (∀ W', Below (w9.alloc (.cells #[.string x1, .string xx, .int .i64 si, .int .i64 si3, .bool cl] 68)).heap.size (w9.alloc (.cells #[.string x1, .string xx, .int .i64 si, .int .i64 si3, .bool cl] 68)) W' → Blk W' w9.heap.size 68 #[.string x1, .string xx, .int .i64 si, .int .i64 si3, .bool cl]) := Lib.hid fun W' h => (Blk.new _ _ _).kept h
                    have HLow : Hid (∀ W', Below (w9.alloc (.cells #[.string x1, .string xx, .int .i64 si, .int .i64 si3, .bool cl] 68)).heap.size (w9.alloc (.cells #[.string x1, .string xx, .int .i64 si, .int .i64 si3, .bool cl] 68)) W' → Below w7.heap.size w7 W') := Lib.hid fun W' h => (((hb8.trans (hb9.mono hs8)).alloc (by omega) _).trans (h.mono (by simp; omega)))
                    as_aux_lemma =>
                     refine anyB_one (i := 19) (by kernel_rfl) rfl rfl ?_
                     intro wd hbd K hK
                     have hWd := HLow.out wd hbd
                     have hYd := HY7.out.kept hWd
                     have hbl := HBL.out wd hbd
                     have hsd := hWd.size
                     refine wp_appB 23 68 5 56 elemSwR (.tmp 128) (.tmp 145) rfl (w1.heap.size + 1) _ _ _ rfl hYd.r1 w9.heap.size 1 _ rfl hbl rfl ?_ (by decide) ?_ ?_ ?_ ?_
                     · intro u hu; simp at hu; first | (rcases hu with rfl | rfl <;> rfl) | (rcases hu with rfl | rfl | rfl | rfl | rfl <;> rfl)
                     · unfold maxLen; omega
                     · omega
                     · omega
                     intro g' cap' we hown hg hat
                     have hXe : Ex [w1.heap.size, r0] w7 we := (Ex.of_below hWd).trans (Ex.of_grown hg (fun r e => by rw [HR0.out r e]; simp))
                     refine hK _ _ ⟨hXe, ?_⟩
                     clear hK K hat
                     have HG := Lib.hid hg
                     have HO := Lib.hid hown
                     have HYd := Lib.hid hYd
                     have HWd := Lib.hid hWd
                     have hbe := hYd.box.grown hg (own_neT hYd.r1 hYd.box (by decide))
                     have HBe := Lib.hid hbe
                     clear hown hg hYd hWd hbl hbe hbd
                     (refine anyB_quiet_at (by kernel_rfl) calm_panic xs_ 1 [20] _ _ (by kernel_rfl) (by decide +kernel) ?_; simp only [pickB, List.filterMap_cons, List.filterMap_nil, List.getElem?_toArray, List.getElem?_cons_zero, List.getElem?_cons_succ]; (repeat (first | ((first | (with_reducible refine quietL_plain rfl (fun K hK => ?_)) | (with_reducible refine quietL_want (by with_unfolding_all rfl) (fun K hK => ?_))); (apply Exists.intro; refine ⟨fun wx hx => ?_, ?_⟩; (· (have hcx := ifs_ex hx); simp [go_sem, *, ↓IntWalk.iteOmega] <;> (first | rfl | exact ⟨rfl, rfl⟩ | fail)); (simp only [Act.put, List.setIfInBounds_toArray, List.set_cons_zero, List.set_cons_succ]; refine hK _ ?_; clear hK K))) | ((with_reducible refine quietL_skip (by with_unfolding_all rfl) ?_); simp only [Act.put, List.setIfInBounds_toArray, List.set_cons_zero, List.set_cons_succ]))); refine quietL_nil ?_)
                     refine anyB_one (i := 21) (by kernel_rfl) rfl rfl ?_
                     intro wf hbf K hK
                     have bg := HBe.out.kept hbf
                     have cgf := bg.cell
                     have fgf := bg.frozen
                     have lgf := bg.lt
                     have HN := Lib.hid (HAp.out _ _ _ _ HYd.out (grown_then HG.out hbf) (HO.out.kept hbf))
                     have HFr := Lib.hid (((((Fr3.refl (w1.heap.size + 1) w1.heap.size 66 68 72 w7 HR7.out.le).below HWd.out).grown (by decide) HYd.out.r1 HG.out).below hbf).set (.inl rfl) 1 (.slice (some ⟨g', 0, none⟩) (z.w.length + 1) cap'))
                     clear bg
                     go_wp2
                     refine ⟨xs_, ?_⟩
                     refine anyB_end (by kernel_rfl) ?_
                     intro wm hbm
                     simp only [Calm]
                     have HN2 := Lib.hid (HN.out.kept hbm)
                     have HFr2 := Lib.hid (HFr.out.below hbm)
                     clear HN HFr HG HO HYd HWd HBe
                     have HAf := Lib.hid (HR7.out.after HN2.out HFr2.out)
                     clear HN2 HFr2
                     go_wp2_with fail
                     go_roundw
                     case rel => exact ⟨k + 1, _, by omega, by go_num, HRN, HAf.out⟩
                     case measure => simp [intOf]; omega
                  · intro w8 hb8 K hK
                    have hs8 := hb8.size
                    refine wp_bs 23 68 (.tmp 144) (.agg #[.string x1, .string xx, .int .i64 si, .int .i64 si3, .bool cl]) #[.string x1, .string xx, .int .i64 si, .int .i64 si3, .bool cl] rfl rfl (by kernel_rfl) (hK _ _ ⟨xs_, ?_⟩)
                    clear hK K
                    refine anyB_one (i := 1) (by kernel_rfl) rfl rfl ?_
                    intro w9 hb9 K hK
                    have hl9 : Below w7.heap.size w7 w9 := (hb8.alloc hs8 _).trans (hb9.mono (by simp; omega))
                    have cg9 := (HY7.out.kept hl9).box.cell
                    have hs9 := hl9.size
                    have HL9 := Lib.hid hl9
                    have HBL : Hid (∀ W', Below w9.heap.size w9 W' → Blk W' w8.heap.size 68 #[.string x1, .string xx, .int .i64 si, .int .i64 si3, .bool cl]) := Lib.hid fun W' h => ((Blk.new _ _ _).kept hb9).kept h
                    have HLow : Hid (∀ W', Below w9.heap.size w9 W' → Below w7.heap.size w7 W') := Lib.hid fun W' h => HL9.out.trans (h.mono hs9)
                    clear hl9
                    go_wp2
                    refine ⟨xs_, ?_⟩
                    as_aux_lemma =>
                     refine anyB_one (i := 19) (by kernel_rfl) rfl rfl ?_
                     intro wd hbd K hK
                     have hWd := HLow.out wd hbd
                     have hYd := HY7.out.kept hWd
                     have hbl := HBL.out wd hbd
                     have hsd := hWd.size
                     refine wp_appB 23 68 5 56 elemSwR (.tmp 128) (.tmp 145) rfl (w1.heap.size + 1) _ _ _ rfl hYd.r1 w8.heap.size 1 _ rfl hbl rfl ?_ (by decide) ?_ ?_ ?_ ?_
                     · intro u hu; simp at hu; first | (rcases hu with rfl | rfl <;> rfl) | (rcases hu with rfl | rfl | rfl | rfl | rfl <;> rfl)
                     · unfold maxLen; omega
                     · omega
                     · omega
                     intro g' cap' we hown hg hat
                     have hXe : Ex [w1.heap.size, r0] w7 we := (Ex.of_below hWd).trans (Ex.of_grown hg (fun r e => by rw [HR0.out r e]; simp))
                     refine hK _ _ ⟨hXe, ?_⟩
                     clear hK K hat
                     have HG := Lib.hid hg
                     have HO := Lib.hid hown
                     have HYd := Lib.hid hYd
                     have HWd := Lib.hid hWd
                     have hbe := hYd.box.grown hg (own_neT hYd.r1 hYd.box (by decide))
                     have HBe := Lib.hid hbe
                     clear hown hg hYd hWd hbl hbe hbd
                     (refine anyB_quiet_at (by kernel_rfl) calm_panic xs_ 1 [20] _ _ (by kernel_rfl) (by decide +kernel) ?_; simp only [pickB, List.filterMap_cons, List.filterMap_nil, List.getElem?_toArray, List.getElem?_cons_zero, List.getElem?_cons_succ]; (repeat (first | ((first | (with_reducible refine quietL_plain rfl (fun K hK => ?_)) | (with_reducible refine quietL_want (by with_unfolding_all rfl) (fun K hK => ?_))); (apply Exists.intro; refine ⟨fun wx hx => ?_, ?_⟩; (· (have hcx := ifs_ex hx); simp [go_sem, *, ↓IntWalk.iteOmega] <;> (first | rfl | exact ⟨rfl, rfl⟩ | fail)); (simp only [Act.put, List.setIfInBounds_toArray, List.set_cons_zero, List.set_cons_succ]; refine hK _ ?_; clear hK K))) | ((with_reducible refine quietL_skip (by with_unfolding_all rfl) ?_); simp only [Act.put, List.setIfInBounds_toArray, List.set_cons_zero, List.set_cons_succ]))); refine quietL_nil ?_)
                     refine anyB_one (i := 21) (by kernel_rfl) rfl rfl ?_
                     intro wf hbf K hK
                     have bg := HBe.out.kept hbf
                     have cgf := bg.cell
                     have fgf := bg.frozen
                     have lgf := bg.lt
                     have HN := Lib.hid (HAp.out _ _ _ _ HYd.out (grown_then HG.out hbf) (HO.out.kept hbf))
                     have HFr := Lib.hid (((((Fr3.refl (w1.heap.size + 1) w1.heap.size 66 68 72 w7 HR7.out.le).below HWd.out).grown (by decide) HYd.out.r1 HG.out).below hbf).set (.inl rfl) 1 (.slice (some ⟨g', 0, none⟩) (z.w.length + 1) cap'))
                     clear bg
                     go_wp2
                     refine ⟨xs_, ?_⟩
                     refine anyB_end (by kernel_rfl) ?_
                     intro wm hbm
                     simp only [Calm]
                     have HN2 := Lib.hid (HN.out.kept hbm)
                     have HFr2 := Lib.hid (HFr.out.below hbm)
                     clear HN HFr HG HO HYd HWd HBe
                     have HAf := Lib.hid (HR7.out.after HN2.out HFr2.out)
                     clear HN2 HFr2
                     go_wp2_with fail
                     go_roundw
                     case rel => exact ⟨k + 1, _, by omega, by go_num, HRN, HAf.out⟩
                     case measure => simp [intOf]; omega
  · skip
    as_aux_lemma =>
     obtain rfl : k = m := by omega
     have hkl : k < ls.length := by rw [HM.out]; omega
     have hlv := own_live HR.out.ln k (by rw [HM.out]; omega)
     have cl : wr.cell? ⟨g, k, none⟩ = some (.string ls[k]) := by rw [hlv.1, List.getElem?_map, List.getElem?_eq_getElem hkl]; rfl
     have hki : ¬ (k : Int) < (k : Int) := by omega
     have hkn : (k : Int) < (k : Int) + 1 := by omega
     have HG : Hid (goP rpR nilY 0 ls = if ls[k].toList == [] then (if yardE z = 0 then (z, 0, 0) else (nilY, k, yardE z)) else (nilY, k, 25)) := Lib.hid (by
      have hd : ls = ls.take k ++ [ls[k]] := by
       rw [← List.take_succ_eq_append_getElem hkl, List.take_of_length_le (by rw [HM.out]; exact Nat.le_refl _)]
      have h3 := goP_runR ls[k] [] (ls.take k) nilY z 0 hz.out
      rw [← hd] at h3
      rw [h3, List.length_take, Nat.zero_add, Nat.min_eq_left (by omega)]
      rfl)
     have hLz := runR_len (M := 300) (ls.take k) 0 nilY z (lenN_nil _) (fun x hx => HSB.out x (List.mem_of_mem_take hx)) hz.out
     rw [List.length_take, HM.out, Nat.min_eq_left (by omega), Nat.zero_add] at hLz
     have HFt := Lib.hid (hLz.fits (by omega) (by omega))
     generalize ls[k] = l at *
     clear hlv hLz HSB HSp HSs hz
     obtain ⟨v0, v1, v2, hY⟩ := HR.out.yd
     obtain ⟨A0, A1, A2, c0, c1, c2, rfl, rfl, rfl, hyat⟩ := hY.at_
     have HY := Lib.hid hY
     have HC := Lib.hid (fun W (hW : Below wr.heap.size wr W) => rCheckYardL_any wr.heap.size A0 A1 A2 z.s.length z.w.length z.p.length c0 c1 c2 z W (hyat.below hW) hW.size HFt.out)
     have cg := hY.box.cell
     have lg := hY.box.lt
     have fg := hY.box.frozen
     have cb := HR.out.q2.cell
     have fb := HR.out.q2.frozen
     have lb := HR.out.q2.lt
     clear hyat hY
     have hbe : (l.toList == []) = l.toList.isEmpty := by cases l.toList <;> rfl
     rw [hbe] at HG
     cases hle : l.toList.isEmpty
     · have hEe : goP rpR nilY 0 ls = (nilY, k, 25) := by rw [HG.out, hle]; rfl
       clear HG
       go_wp2_with fail
       refine bodyPost_ret (v := .tuple #[.agg #[.slice none 0 0, .slice none 0 0, .slice none 0 0], .int .i64 (k : Int), .int .i64 25]) ?_ rfl ?_
       · have ck := ((((HR.out.q2.set_ 0 (.slice none 0 0)).set_ 1 (.slice none 0 0)).set_ 2 (.slice none 0 0))).cell
         simp [results, Tryz.results76, go_sem, ck]
       · try rw [hEe]
         exact ⟨none, none, none, 0, 0, 0, rfl, ⟨Reads.nil_, Reads.nil_, Reads.nil_⟩, ((HR.out.low.setCell (p := ⟨w.heap.size, 0, none⟩) (Nat.le_refl _) _).setCell (p := ⟨w.heap.size, 1, none⟩) (Nat.le_refl _) _).setCell (p := ⟨w.heap.size, 2, none⟩) (Nat.le_refl _) _⟩
     · have HG2 : Hid (goP rpR nilY 0 ls = if yardE z = 0 then (z, 0, 0) else (nilY, k, yardE z)) := Lib.hid (by rw [HG.out, hle]; rfl)
       clear HG
       go_wp2_with fail
       refine (HC.out _ (Below.refl _ _)).mono ?_
       rintro e w3 ⟨rfl, hb3⟩
       have HR3 := Lib.hid (HR.out.kept hb3)
       have HY3 := Lib.hid (HY.out.kept hb3)
       clear HC HY HR cg lg fg cb fb lb cl
       have cg := HY3.out.box.cell
       have lg := HY3.out.box.lt
       have fg := HY3.out.box.frozen
       have cb := HR3.out.q2.cell
       have fb := HR3.out.q2.frozen
       have lb := HR3.out.q2.lt
       by_cases he : yardE z = 0
       · have hEe : Hid (goP rpR nilY 0 ls = (z, 0, 0)) := Lib.hid (by rw [HG2.out, if_pos he])
         clear HG2
         rw [he]
         go_wp2_with fail
         obtain ⟨W5, hW5⟩ : ∃ W5, W5 = ((w3.setCell ⟨w.heap.size, 0, none⟩ (.slice A0 z.s.length c0)).setCell ⟨w.heap.size, 1, none⟩ (.slice A1 z.w.length c1)).setCell ⟨w.heap.size, 2, none⟩ (.slice A2 z.p.length c2) := ⟨_, rfl⟩
         rw [← hW5]
         have q5 : Blk W5 w.heap.size 26 #[.slice A0 z.s.length c0, .slice A1 z.w.length c1, .slice A2 z.p.length c2] := by
          rw [hW5]
          exact ((HR3.out.q2.set_ 0 _).set_ 1 _).set_ 2 _
         have l5 : Below w.heap.size w W5 := by
          rw [hW5]
          exact ((HR3.out.low.setCell (p := ⟨w.heap.size, 0, none⟩) (Nat.le_refl _) _).setCell (p := ⟨w.heap.size, 1, none⟩) (Nat.le_refl _) _).setCell (p := ⟨w.heap.size, 2, none⟩) (Nat.le_refl _) _
         have y1 := HY3.out.set HR3.out.q2 (by omega) (by decide) (by decide) (by decide) 0 (.slice A0 z.s.length c0)
         have y2 := y1.set (HR3.out.q2.set_ 0 _) (by omega) (by decide) (by decide) (by decide) 1 (.slice A1 z.w.length c1)
         have y3 := y2.set ((HR3.out.q2.set_ 0 _).set_ 1 _) (by omega) (by decide) (by decide) (by decide) 2 (.slice A2 z.p.length c2)
         have y5 : YdAt W5 W5.heap.size A0 A1 A2 z.s.length z.w.length z.p.length z := by
          rw [hW5]
          exact y3.yd
         refine bodyPost_ret (v := .tuple #[.agg #[.slice A0 z.s.length c0, .slice A1 z.w.length c1, .slice A2 z.p.length c2], .int .i64 0, .int .i64 0]) ?_ rfl ?_
         · have ck := q5.cell
           simp [results, Tryz.results76, go_sem, ck]
         · try rw [hEe.out]
           exact ⟨A0, A1, A2, c0, c1, c2, rfl, y5, l5⟩
       · have HEe : Hid (goP rpR nilY 0 ls = (nilY, k, yardE z)) := Lib.hid (by rw [HG2.out, if_neg he])
         clear HG2
         generalize yardE z = ee at *
         have hne : (ee != 0) = true := by simpa using he
         go_wp2_with fail
         have hEe := HEe.out
         refine bodyPost_ret (v := .tuple #[.agg #[.slice none 0 0, .slice none 0 0, .slice none 0 0], .int .i64 (k : Int), .int .i64 ee]) ?_ rfl ?_
         · have ck := (((HR3.out.q2.set_ 0 (.slice none 0 0)).set_ 1 (.slice none 0 0)).set_ 2 (.slice none 0 0)).cell
           simp [results, Tryz.results76, go_sem, ck]
         · rw [hEe]
           exact ⟨none, none, none, 0, 0, 0, rfl, ⟨Reads.nil_, Reads.nil_, Reads.nil_⟩, ((HR3.out.low.setCell (p := ⟨w.heap.size, 0, none⟩) (Nat.le_refl _) _).setCell (p := ⟨w.heap.size, 1, none⟩) (Nat.le_refl _) _).setCell (p := ⟨w.heap.size, 2, none⟩) (Nat.le_refl _) _⟩
/-- The reference's Parse gives what its parts give. -/
theorem rParse_any (s : ByteArray) (w : World) (hs : s.size ≤ 300 ∨ 4096 < s.size) : Calls Tryz.prog 76 #[.string s] w (PaRes w (parseR s)) := by
 unfold parseR
 rcases hs with h | h
 · rw [if_neg (by omega)]
   exact rParse_short s w h
 · rw [if_pos h]
   exact rParse_long s w h
end Go.Proofs.YtphlojgmfkgeiaaGreatDoor
