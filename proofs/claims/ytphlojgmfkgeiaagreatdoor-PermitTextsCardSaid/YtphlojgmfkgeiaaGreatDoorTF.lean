/- What the program makes of a line. -/
import Derived.Test.YtphlojgmfkgeiaaGreatDoorTW
import Derived.Test.YtphlojgmfkgeiaaGreatDoorTA
import Derived.Test.YtphlojgmfkgeiaaGreatDoorTD
import Derived.Deep.DeepCutAuto
import Derived.Deep.CutBlock
namespace Go.Proofs.YtphlojgmfkgeiaaGreatDoor
open Go.RowKit Go.Sort Go.Shelf
set_option linter.unusedSimpArgs false
set_option linter.unusedVariables false
attribute [local go_sem] cell_if frozen_if grow_cell
theorem ex_low {w W W' : World} {X : List Nat} (h : Below w.heap.size w W) (hx : Ex X W W') (hX : ∀ k ∈ X, w.heap.size ≤ k) : Below w.heap.size w W' :=
 h.trans ⟨hx.os, hx.tape, hx.output, hx.size, fun k hk => hx.block k (Nat.lt_of_lt_of_le hk h.size) (fun hm => by have := hX k hm; omega)⟩
/-- While a line is read: the variables of the call, the words that are left, the error so far. -/
structure RdS (b0 bt bk gy : Nat) (st : List ByteArray × Bool) (kn : Int) (w W : World) : Prop where
 low : Below w.heap.size w W
 pb : Blk W b0 215 #[.pointer (some ⟨gy, 0, none⟩)]
 tk : TkAt W bt st
 kb : Blk W bk 34 #[.int .i64 kn]
 o0 : w.heap.size ≤ b0
 o1 : b0 < bt
 o2 : bt < bk
section
variable {b0 bt bk gy : Nat} {st st' : List ByteArray × Bool} {kn kn' : Int} {w W W' : World}
theorem RdS.exx {X : List Nat} (h : RdS b0 bt bk gy st kn w W) (hx : Ex X W W') (hX : ∀ k ∈ X, bk < k) : RdS b0 bt bk gy st kn w W' := by
 have h0 := h.o0
 have h1 := h.o1
 have h2 := h.o2
 refine ⟨ex_low h.low hx fun k hk => ?_, (hx.block _ h.pb.lt fun hk => ?_).trans h.pb, h.tk.ex hx fun k hk => ?_, (hx.block _ h.kb.lt fun hk => ?_).trans h.kb, h0, h1, h2⟩ <;> (have := hX _ hk; omega)
theorem RdS.kept (h : RdS b0 bt bk gy st kn w W) (hb : Below W.heap.size W W') : RdS b0 bt bk gy st kn w W' := h.exx (X := []) (Ex.of_below hb) (fun _ hk => by cases hk)
theorem RdS.set {k : Nat} (h : RdS b0 bt bk gy st kn w W) (hk : bk < k) (i : Nat) (u : Value) : RdS b0 bt bk gy st kn w (W.setCell ⟨k, i, none⟩ u) :=
 h.exx (X := [k]) ((Ex.refl [k] W).set_in (p := ⟨k, i, none⟩) (.inl (List.mem_singleton.2 rfl)) u) (fun j hj => by rw [List.mem_singleton.1 hj]; exact hk)
theorem RdS.word (h : RdS b0 bt bk gy st kn w W) (hx : Ex [bt] W W') (ht : TkAt W' bt st') : RdS b0 bt bk gy st' kn w W' := by
 have h0 := h.o0
 have h1 := h.o1
 have h2 := h.o2
 refine ⟨ex_low h.low hx fun k hk => ?_, (hx.block _ h.pb.lt fun hk => ?_).trans h.pb, ht, (hx.block _ h.kb.lt fun hk => ?_).trans h.kb, h0, h1, h2⟩ <;> (have := List.mem_singleton.1 hk; omega)
theorem RdS.at_ (h : RdS b0 bt bk gy st kn w W) (hx : Ex [bk] W W') (hk : Blk W' bk 34 #[.int .i64 kn']) : RdS b0 bt bk gy st kn' w W' := by
 have h0 := h.o0
 have h1 := h.o1
 have h2 := h.o2
 refine ⟨ex_low h.low hx fun k hk => ?_, (hx.block _ h.pb.lt fun hk => ?_).trans h.pb, h.tk.ex hx fun k hk => ?_, hk, h0, h1, h2⟩ <;> (have := List.mem_singleton.1 hk; omega)
end
/-- A slice literal of one element, at one operation. -/
theorem wp_bs {P : Program} {o : Oper} {a : Act} {w : World} {K : Act → World → Prop} {Q : Exit → Act → World → Prop} (t e : TypeId) (x : Operand) (v : Value) (cells : Array Value) (ho : o.op = .buildSlice t 1 #[(0, x)]) (hx : a.eval x = v)
 (hr : (Instr.buildSlice t 1 #[(0, v)]).run P w = .ok (.slice (some ⟨w.heap.size, 0, none⟩) 1 1) (w.alloc (.cells cells e))) (h : K (a.put o.dst (.slice (some ⟨w.heap.size, 0, none⟩) 1 1)) (w.alloc (.cells cells e))) : o.wp P a w K Q := by
 subst hx
 have hr' : (Instr.buildSlice t 1 (#[(0, x)].map fun (i, x) => (i, a.eval x))).run P w = .ok (.slice (some ⟨w.heap.size, 0, none⟩) 1 1) (w.alloc (.cells cells e)) := by simpa using hr
 unfold Oper.wp execOp
 simp only [ho, Sem.run_bind, hr', Result.andThen_ok]
 exact h
def WsB (M : Nat) (st : List ByteArray × Bool) : Prop := ∀ x ∈ st.1, x.size ≤ M
theorem tk_b {M : Nat} {st : List ByteArray × Bool} (h : WsB M st) : (tk st).1.size ≤ M ∧ WsB M (tk st).2 := by
 obtain ⟨l, q⟩ := st
 cases l with
 | nil => exact ⟨Nat.zero_le _, fun x hx => by cases hx⟩
 | cons x r =>
  cases hx : (x.toList == []) with
  | true => rw [tk_no hx]; exact ⟨Nat.zero_le _, fun x hx => by cases hx⟩
  | false => rw [tk_ok hx]; exact ⟨h x (List.mem_cons_self ..), fun z hz => h z (List.mem_cons_of_mem _ hz)⟩
theorem spTo_b (s : ByteArray) (c : Nat) : ∀ k, k ≤ s.size → ∀ x ∈ spTo s c k, x.size ≤ k
 | 0, _, x, hx => by
  unfold spTo at hx
  rw [List.mem_singleton.1 hx]
  exact Nat.le_refl _
 | k + 1, h, x, hx => by
  have ih := spTo_b s c k (by omega)
  have hl := spTo_last s c k (by omega)
  unfold spTo at hx
  split at hx
  · rcases List.mem_append.1 hx with h1 | h1
    · have := ih x h1; omega
    · rw [List.mem_singleton.1 h1]; exact Nat.zero_le _
  · rcases List.mem_append.1 hx with h1 | h1
    · have := ih x (List.dropLast_subset _ h1); omega
    · rw [List.mem_singleton.1 h1, ByteArray.size_append, ByteArray.size_extract]; omega
def RdRes (base gy : Nat) (y : Yd) (s : ByteArray) (w : World) (e : Ending) (w' : World) : Prop :=
 e = .returned (.int .i64 (prR y (spL s 32)).1) ∧ (∃ u0 u1 u2, YdO base gy 41 133 70 117 (prR y (spL s 32)).2 u0 u1 u2 w') ∧ Fr3 base gy 133 70 117 w w'
theorem emp_len (l : List ByteArray) : decide (0 < l.length) = !l.isEmpty := by cases l <;> rfl
/-- What a line leaves, but for the last check. -/
def RdEnd (base gy bt : Nat) (p : Int × Yd) (w wx : World) : Prop :=
 (∃ u0 u1 u2, YdO base gy 41 133 70 117 p.2 u0 u1 u2 wx) ∧ Fr3 base gy 133 70 117 w wx ∧
 ∃ A n c q kn, Blk wx bt 219 #[.slice A n c, .bool q] ∧ Blk wx (bt + 1) 34 #[.int .i64 kn] ∧ synE (q || decide (0 < n)) kn = p.1 ∧ n ≤ 100000
set_option maxRecDepth 100000 in
set_option maxHeartbeats 16000000 in
theorem read_any (base gy : Nat) (y : Yd) (v0 v1 v2 : Value) (s : ByteArray) (w : World) (hT : Tabs w) (hY : YdO base gy 41 133 70 117 y v0 v1 v2 w) (hb : base ≤ w.heap.size) (hF : FitsL y) (hs : s.size ≤ 90000) :
 Calls Tryz.prog 149 #[.pointer (some ⟨gy, 0, none⟩), .string s] w (RdRes base gy y s w) := by
 have hwl := (spTo_len s 32 s.size).2
 have hwb : WsB 90000 (spL s 32, false) := fun x hx => Nat.le_trans (spTo_b s 32 s.size (Nat.le_refl _) x hx) hs
 have HSp := Lib.hid (fun W => SSplit_any s W (by omega))
 have HRs : Hid (∀ e w', RdRes base gy y s w e w' = (e = .returned (.int .i64 (prK y (tk (spL s 32, false)).1 (tk (spL s 32, false)).2).1) ∧ (∃ u0 u1 u2, YdO base gy 41 133 70 117 (prK y (tk (spL s 32, false)).1 (tk (spL s 32, false)).2).2 u0 u1 u2 w') ∧ Fr3 base gy 133 70 117 w w')) := Lib.hid fun _ _ => rfl
 change (spL s 32).length ≤ s.size + 1 at hwl
 generalize spL s 32 = ws at *
 have HT := Lib.hid hT
 obtain ⟨A0, A1, A2, c0, c1, c2, rfl, rfl, rfl, hyat⟩ := hY.at_
 have HY := Lib.hid hY
 have HYa := Lib.hid hyat
 clear hyat
 have HF := Lib.hid hF
 have HWB := Lib.hid hwb
 clear hT hY hF hwb
 go_enter Tryz.func149, Tryz.ntmps149
 go_wp2_with fail
 refine (HSp.out _).mono ?_
 rintro e w1 ⟨g, cap, rfl, hc, hr, hg, hb1⟩
 have hs1 := hb1.size
 simp at hs1
 have HR := Lib.hid hr
 clear hr
 go_wp2_with fail
 have HS0 : Hid (RdS w.heap.size w1.heap.size (w1.heap.size + 1) gy (ws, false) 0 w ((w1.alloc (.cells #[.slice (some ⟨g, 0, none⟩) ws.length cap, .bool false] 219)).alloc (.cells #[.int .i64 0] 34))) := Lib.hid
  ⟨bl_, bk_, ⟨some ⟨g, 0, none⟩, ws.length, cap, bk_, hc, ((HR.out.more (B' := w1.heap.size) (by omega)).alloc (Nat.le_refl _) _).alloc (by simp) _⟩, bk_, Nat.le_refl _, by omega, Nat.lt_succ_self _⟩
 clear HR hc hg hb1 HSp
 generalize w1.heap.size = bt at *
 refine (tword_any bt (ws, false) _ HS0.out.tk (by show ws.length ≤ _; omega)).mono ?_
 rintro e w2 ⟨rfl, ht2, hx2⟩
 have HS2 := Lib.hid (HS0.out.word hx2 ht2)
 have hwb2 := tk_b HWB.out
 have HLn := Lib.hid (tk_len (ws, false))
 clear ht2 hx2 HS0 HWB
 generalize (tk (ws, false)).2 = st at *
 generalize (tk (ws, false)).1 = k at *
 obtain ⟨hk0, hwb⟩ := hwb2
 have hst : st.1.length ≤ 90001 := by have := HLn.out; dsimp only at this; omega
 clear HLn hwl
 have HWB := Lib.hid hwb
 clear hwb
 have HPk : Hid (∀ wx, RdEnd base gy bt (prK y k st) w wx = RdEnd base gy bt (if k.toList == sectionL then prSec y st else if k.toList == permitL then prPm y st else if kindB k then prSw y k st else (25, y)) w wx) := Lib.hid fun _ => rfl
 go_upto_block 0 with fail
 go_cut [] (fun wx => RdEnd base gy bt (prK y k st) w wx)
 case first =>
  as_aux_lemma =>
   cases k1 : (k.toList == [115, 101, 99, 116, 105, 111, 110]) with
   | true =>
    as_aux_lemma =>
     have k1' : (k.toList == sectionL) = true := k1
     have hP : prK y k st = prSec y st := by unfold prK; exact if_pos k1'
     have HP := Lib.hid hP
     clear hP HPk
     clear k1'
     have lx2 := HS2.out.kb.lt
     go_wp2_with fail
     refine (tword_any bt st _ (HS2.out.kept bl_).tk (by omega)).mono ?_
     rintro e w3 ⟨rfl, ht3, hx3⟩
     have HS3 := Lib.hid ((HS2.out.kept bl_).word hx3 ht3)
     have bx3 : Blk w3 w2.heap.size 133 #[.string ⟨#[]⟩, .bool false] := (hx3.block _ (by simp) (by have := HS2.out.o2; simp; omega)).trans (Blk.new _ _ _)
     have hb3 := tk_b HWB.out
     have hl3 := tk_len st
     have HPs : Hid (∀ v, v = tk (tk st).2 → prSec y st = (synE ((v.2.2 || !(v.1.toList == sourceL || v.1.toList == plainL)) || decide (0 < y.w.length + y.p.length) || !v.2.1.isEmpty) 0, { y with s := y.s ++ [⟨(tk st).1, v.1.toList == sourceL⟩] })) := Lib.hid fun v hv => by subst hv; rfl
     clear ht3 hx3
     generalize (tk st).2 = st3 at *
     generalize (tk st).1 = nm at *
     obtain ⟨hnm, hwb3⟩ := hb3
     have c3 := bx3.cell
     have f3 := bx3.frozen
     have l3 := bx3.lt
     have BX3 := Lib.hid (bx3.set_ 0 (.string nm))
     have hlt3 : bt + 1 < w2.heap.size := lx2
     clear bx3
     generalize w2.heap.size = bx at *
     clear HS2
     go_wp2_with fail
     refine (teither_any bt st3 ⟨#[115, 111, 117, 114, 99, 101]⟩ ⟨#[112, 108, 97, 105, 110]⟩ _ (HS3.out.set hlt3 0 (.string nm)).tk (by omega)).mono ?_
     rintro e w4 ⟨rfl, ht4, hx4⟩
     have e1 : (⟨#[115, 111, 117, 114, 99, 101]⟩ : ByteArray).toList = sourceL := by rw [toList_data]; rfl
     have e2 : (⟨#[112, 108, 97, 105, 110]⟩ : ByteArray).toList = plainL := by rw [toList_data]; rfl
     rw [e1, e2] at ht4
     rw [e1]
     clear e1 e2
     have HS4 := Lib.hid ((HS3.out.set hlt3 0 (.string nm)).word hx4 ht4)
     have BX4 : Hid (Blk w4 bx 133 #[.string nm, .bool false]) := Lib.hid ((hx4.block _ (by simpa [World.setCell] using l3) (by simp; omega)).trans BX3.out)
     have HP2 := Lib.hid (HPs.out _ rfl)
     have HE4 : Hid (tkE st3 sourceL plainL = ((tk st3).2.1, (tk st3).2.2 || !((tk st3).1.toList == sourceL || (tk st3).1.toList == plainL))) := Lib.hid rfl
     rw [HE4.out] at HS4
     clear ht4 hx4 HS3 HPs HE4 BX3 c3 f3 l3
     have hl4 := tk_len st3
     generalize ((tk st3).2.2 || !((tk st3).1.toList == sourceL || (tk st3).1.toList == plainL)) = q4 at *
     generalize (tk st3).2.1 = r4 at *
     generalize ((tk st3).1.toList == sourceL) = src at *
     have c4 := BX4.out.cell
     have f4 := BX4.out.frozen
     have l4 := BX4.out.lt
     go_upto_region 11 with fail
     have HS5 := Lib.hid (HS4.out.set hlt3 1 (.bool src))
     have BX5 := Lib.hid (BX4.out.set_ 1 (.bool src))
     clear HS4 BX4 c4 f4 l4
     refine wp_world ?_
     intro W hW
     rw [← hW] at HS5 BX5
     clear hW
     obtain ⟨A, n, c, bt5, hnc, hrr⟩ := HS5.out.tk
     have hYW := HY.out.kept HS5.out.low
     have hnr : r4.length = n := by have := hrr.1; simpa using this
     have ct := bt5.cell
     have ft := bt5.frozen
     have lt := bt5.lt
     have cp := HS5.out.pb.cell
     have lp := HS5.out.pb.lt
     have cg := hYW.box.cell
     have lg := hYW.box.lt
     have hn1 := HF.out.w9
     have hn2 := HF.out.p9
     have hwr : IntKind.i64.wrap ((y.w.length : Int) + (y.p.length : Int)) = (y.w.length : Int) + (y.p.length : Int) := by rw [IntKind.wrap_i64]; omega
     have ob := HS5.out.o1
     have ob0 := HS5.out.o0
     have og := HY.out.box.lt
     have HBT := Lib.hid bt5
     have HHR := Lib.hid hrr
     have hdI : decide ((0 : Int) < (y.w.length : Int) + (y.p.length : Int)) = decide (0 < y.w.length + y.p.length) := by
      by_cases h : 0 < y.w.length + y.p.length
      · rw [decide_eq_true h, decide_eq_true (by omega)]
      · rw [decide_eq_false h, decide_eq_false (by omega)]
     clear bt5 hrr hYW
     generalize decide (0 < y.w.length + y.p.length) = dq at *
     go_cut [] (fun wx => Blk wx bt 219 #[.slice A n c, .bool (q4 || dq)] ∧ Ex [bt] W wx)
     case first =>
      as_aux_lemma =>
       cases q4 with
       | true =>
        go_wp2_with fail
        (refine wp_region_calm [bt] [0, 1, 2, 3] 18 (by kernel_rfl) rfl (by kernel_rfl) (by kernel_rfl) (by kernel_rfl) ?_; simp only [pickB, List.filterMap_cons, List.filterMap_nil, List.getElem?_toArray, List.getElem?_cons_zero, List.getElem?_cons_succ]; (repeat (first | ((first | (with_reducible refine quietL_plain rfl (fun K hK => ?_)) | (with_reducible refine quietL_want (by with_unfolding_all rfl) (fun K hK => ?_))); (apply Exists.intro; refine ⟨fun wx hx => ?_, ?_⟩; (· (have hcx := ifs_ex hx); simp [go_sem, *, ↓IntWalk.iteOmega] <;> (first | rfl | exact ⟨rfl, rfl⟩ | fail)); (simp only [Act.put, List.setIfInBounds_toArray, List.set_cons_zero, List.set_cons_succ]; refine hK _ ?_; clear hK K))) | ((with_reducible refine quietL_skip (by with_unfolding_all rfl) ?_); simp only [Act.put, List.setIfInBounds_toArray, List.set_cons_zero, List.set_cons_succ]))); refine quietL_nil ?_)
        refine anyB_one (i := 4) (by kernel_rfl) rfl rfl ?_
        intro w5 hb5 K hK
        have ct5 := (HBT.out.kept hb5).cell
        go_wp2
        refine ⟨xs_, ?_⟩
        (refine anyB_quiet_at (by kernel_rfl) calm_panic xs_ 1 [5, 6, 7, 8, 9, 10, 11, 12, 13, 14, 15, 16, 17, 18, 19, 20] _ _ (by kernel_rfl) (by decide +kernel) ?_; simp only [pickB, List.filterMap_cons, List.filterMap_nil, List.getElem?_toArray, List.getElem?_cons_zero, List.getElem?_cons_succ]; (repeat (first | ((first | (with_reducible refine quietL_plain rfl (fun K hK => ?_)) | (with_reducible refine quietL_want (by with_unfolding_all rfl) (fun K hK => ?_))); (apply Exists.intro; refine ⟨fun wx hx => ?_, ?_⟩; (· (have hcx := ifs_ex hx); simp [go_sem, *, ↓IntWalk.iteOmega] <;> (first | rfl | exact ⟨rfl, rfl⟩ | fail)); (simp only [Act.put, List.setIfInBounds_toArray, List.set_cons_zero, List.set_cons_succ]; refine hK _ ?_; clear hK K))) | ((with_reducible refine quietL_skip (by with_unfolding_all rfl) ?_); simp only [Act.put, List.setIfInBounds_toArray, List.set_cons_zero, List.set_cons_succ]))); refine quietL_nil ?_)
        refine anyB_one (i := 21) (by kernel_rfl) rfl rfl ?_
        intro w6 hb6 K hK
        have bt6 := HBT.out.kept (below_trans hb5 hb6)
        have ct6 := bt6.cell
        have ft6 := bt6.frozen
        have lt6 := bt6.lt
        go_wp2
        refine ⟨xs_, ?_⟩
        refine anyB_end (by kernel_rfl) ?_
        intro w7 hb7
        simp only [Calm]
        have HB7 := Lib.hid ((bt6.set_ 1 (.bool _)).kept hb7)
        have hx7 : Ex [bt] W w7 := xs_
        have HX7 := Lib.hid hx7
        clear hx7 bt6
        go_wp2_with fail
        go_meet
        case rel => exact ⟨HB7.out, HX7.out⟩
       | false =>
        cases dq with
        | true =>
         have hd0 : (0 : Int) < (y.w.length : Int) + (y.p.length : Int) := of_decide_eq_true hdI
         go_wp2_with fail
         (refine wp_region_calm [bt] [0, 1, 2, 3] 18 (by kernel_rfl) rfl (by kernel_rfl) (by kernel_rfl) (by kernel_rfl) ?_; simp only [pickB, List.filterMap_cons, List.filterMap_nil, List.getElem?_toArray, List.getElem?_cons_zero, List.getElem?_cons_succ]; (repeat (first | ((first | (with_reducible refine quietL_plain rfl (fun K hK => ?_)) | (with_reducible refine quietL_want (by with_unfolding_all rfl) (fun K hK => ?_))); (apply Exists.intro; refine ⟨fun wx hx => ?_, ?_⟩; (· (have hcx := ifs_ex hx); simp [go_sem, *, ↓IntWalk.iteOmega] <;> (first | rfl | exact ⟨rfl, rfl⟩ | fail)); (simp only [Act.put, List.setIfInBounds_toArray, List.set_cons_zero, List.set_cons_succ]; refine hK _ ?_; clear hK K))) | ((with_reducible refine quietL_skip (by with_unfolding_all rfl) ?_); simp only [Act.put, List.setIfInBounds_toArray, List.set_cons_zero, List.set_cons_succ]))); refine quietL_nil ?_)
         refine anyB_one (i := 4) (by kernel_rfl) rfl rfl ?_
         intro w5 hb5 K hK
         have ct5 := (HBT.out.kept hb5).cell
         go_wp2
         refine ⟨xs_, ?_⟩
         (refine anyB_quiet_at (by kernel_rfl) calm_panic xs_ 1 [5, 6, 7, 8, 9, 10, 11, 12, 13, 14, 15, 16, 17, 18, 19, 20] _ _ (by kernel_rfl) (by decide +kernel) ?_; simp only [pickB, List.filterMap_cons, List.filterMap_nil, List.getElem?_toArray, List.getElem?_cons_zero, List.getElem?_cons_succ]; (repeat (first | ((first | (with_reducible refine quietL_plain rfl (fun K hK => ?_)) | (with_reducible refine quietL_want (by with_unfolding_all rfl) (fun K hK => ?_))); (apply Exists.intro; refine ⟨fun wx hx => ?_, ?_⟩; (· (have hcx := ifs_ex hx); simp [go_sem, *, ↓IntWalk.iteOmega] <;> (first | rfl | exact ⟨rfl, rfl⟩ | fail)); (simp only [Act.put, List.setIfInBounds_toArray, List.set_cons_zero, List.set_cons_succ]; refine hK _ ?_; clear hK K))) | ((with_reducible refine quietL_skip (by with_unfolding_all rfl) ?_); simp only [Act.put, List.setIfInBounds_toArray, List.set_cons_zero, List.set_cons_succ]))); refine quietL_nil ?_)
         refine anyB_one (i := 21) (by kernel_rfl) rfl rfl ?_
         intro w6 hb6 K hK
         have bt6 := HBT.out.kept (below_trans hb5 hb6)
         have ct6 := bt6.cell
         have ft6 := bt6.frozen
         have lt6 := bt6.lt
         go_wp2
         refine ⟨xs_, ?_⟩
         refine anyB_end (by kernel_rfl) ?_
         intro w7 hb7
         simp only [Calm]
         have HB7 := Lib.hid ((bt6.set_ 1 (.bool _)).kept hb7)
         have hx7 : Ex [bt] W w7 := xs_
         have HX7 := Lib.hid hx7
         clear hx7 bt6
         go_wp2_with fail
         go_meet
         case rel => exact ⟨HB7.out, HX7.out⟩
        | false =>
         have hd0 : ¬ (0 : Int) < (y.w.length : Int) + (y.p.length : Int) := of_decide_eq_false hdI
         go_wp2_with fail
         (refine wp_region_calm [bt] [0, 1, 2, 3] 18 (by kernel_rfl) rfl (by kernel_rfl) (by kernel_rfl) (by kernel_rfl) ?_; simp only [pickB, List.filterMap_cons, List.filterMap_nil, List.getElem?_toArray, List.getElem?_cons_zero, List.getElem?_cons_succ]; (repeat (first | ((first | (with_reducible refine quietL_plain rfl (fun K hK => ?_)) | (with_reducible refine quietL_want (by with_unfolding_all rfl) (fun K hK => ?_))); (apply Exists.intro; refine ⟨fun wx hx => ?_, ?_⟩; (· (have hcx := ifs_ex hx); simp [go_sem, *, ↓IntWalk.iteOmega] <;> (first | rfl | exact ⟨rfl, rfl⟩ | fail)); (simp only [Act.put, List.setIfInBounds_toArray, List.set_cons_zero, List.set_cons_succ]; refine hK _ ?_; clear hK K))) | ((with_reducible refine quietL_skip (by with_unfolding_all rfl) ?_); simp only [Act.put, List.setIfInBounds_toArray, List.set_cons_zero, List.set_cons_succ]))); refine quietL_nil ?_)
         refine anyB_one (i := 4) (by kernel_rfl) rfl rfl ?_
         intro w5 hb5 K hK
         have ct5 := (HBT.out.kept hb5).cell
         go_wp2
         refine ⟨xs_, ?_⟩
         (refine anyB_quiet_at (by kernel_rfl) calm_panic xs_ 1 [5, 6, 7, 8, 9, 10, 11, 12, 13, 14, 15, 16, 17, 18, 19, 20] _ _ (by kernel_rfl) (by decide +kernel) ?_; simp only [pickB, List.filterMap_cons, List.filterMap_nil, List.getElem?_toArray, List.getElem?_cons_zero, List.getElem?_cons_succ]; (repeat (first | ((first | (with_reducible refine quietL_plain rfl (fun K hK => ?_)) | (with_reducible refine quietL_want (by with_unfolding_all rfl) (fun K hK => ?_))); (apply Exists.intro; refine ⟨fun wx hx => ?_, ?_⟩; (· (have hcx := ifs_ex hx); simp [go_sem, *, ↓IntWalk.iteOmega] <;> (first | rfl | exact ⟨rfl, rfl⟩ | fail)); (simp only [Act.put, List.setIfInBounds_toArray, List.set_cons_zero, List.set_cons_succ]; refine hK _ ?_; clear hK K))) | ((with_reducible refine quietL_skip (by with_unfolding_all rfl) ?_); simp only [Act.put, List.setIfInBounds_toArray, List.set_cons_zero, List.set_cons_succ]))); refine quietL_nil ?_)
         refine anyB_one (i := 21) (by kernel_rfl) rfl rfl ?_
         intro w6 hb6 K hK
         have bt6 := HBT.out.kept (below_trans hb5 hb6)
         have ct6 := bt6.cell
         have ft6 := bt6.frozen
         have lt6 := bt6.lt
         go_wp2
         refine ⟨xs_, ?_⟩
         refine anyB_end (by kernel_rfl) ?_
         intro w7 hb7
         simp only [Calm]
         have HB7 := Lib.hid ((bt6.set_ 1 (.bool _)).kept hb7)
         have hx7 : Ex [bt] W w7 := xs_
         have HX7 := Lib.hid hx7
         clear hx7 bt6
         go_wp2_with fail
         go_meet
         case rel => exact ⟨HB7.out, HX7.out⟩
     obtain ⟨bt6, hx6⟩ := hcut
     have HS6 := Lib.hid (HS5.out.word (st' := (r4, q4 || dq)) hx6 ⟨A, n, c, bt6, hnc, HHR.out.exT hx6 (fun k hk => by rw [List.mem_singleton.1 hk]; exact Nat.le_refl _) (by omega)⟩)
     have BX6 : Hid (Blk wc bx 133 #[.string nm, .bool src]) := Lib.hid ((hx6.block _ BX5.out.lt (by simp; omega)).trans BX5.out)
     have HBT6 := Lib.hid bt6
     rename World => W6
     clear HS5 hx6 HBT HHR ct ft lt cp lp cg lg BX5 bt6 hwr hdI
     have HY6 := Lib.hid (HY.out.kept HS6.out.low)
     have HBK6 := Lib.hid HS6.out.kb
     have HFr0 := Lib.hid ((Fr3.refl base gy 133 70 117 w (by omega)).below HS6.out.low)
     have cp := HS6.out.pb.cell
     have lp := HS6.out.pb.lt
     have cx := BX6.out.cell
     have lx := BX6.out.lt
     have cg := HY6.out.box.cell
     have lg := HY6.out.box.lt
     have hs6 := HS6.out.low.size
     go_upto_region 12 with fail
     as_aux_lemma =>
      obtain ⟨r0, hr0, hr1⟩ : ∃ r0, (∀ r, (Value.slice A0 y.s.length c0).ownBlock = some r → r = r0) ∧ r0 < w.heap.size := by
       cases h : (Value.slice A0 y.s.length c0).ownBlock with
       | none => exact ⟨gy, fun r e => (by cases e), og⟩
       | some r => exact ⟨r, fun z e => (by cases e; rfl), (HY.out.r0.lt r h).2⟩
      have HR0 := Lib.hid hr0
      clear hr0
      have hn0 := HF.out.s9
      have HEnd : Hid (∀ wx, (∃ u0 u1 u2, YdO base gy 41 133 70 117 { y with s := y.s ++ [⟨nm, src⟩] } u0 u1 u2 wx) → Fr3 base gy 133 70 117 w wx → Blk wx bt 219 #[.slice A n c, .bool (q4 || dq)] → Blk wx (bt + 1) 34 #[.int .i64 0] → RdEnd base gy bt (prK y k st) w wx) :=
       Lib.hid fun wx h1 h2 h3 h4 => by
        rw [HP.out, HP2.out]
        exact ⟨h1, h2, A, n, c, _, 0, h3, h4, by rw [← hnr, emp_len], by omega⟩
      have HAp : Hid (∀ U V g' cap', YdO base gy 41 133 70 117 y (.slice A0 y.s.length c0) (.slice A1 y.w.length c1) (.slice A2 y.p.length c2) U → U.grownBy V (Value.slice A0 y.s.length c0).ownBlock → Own V base 133 2 g' (y.s.length + 1) cap' (secs y.s ++ (#[.string nm, .bool src] : Array Value).toList) → YdO base gy 41 133 70 117 { y with s := y.s ++ [⟨nm, src⟩] } (.slice (some ⟨g', 0, none⟩) (y.s.length + 1) cap') (.slice A1 y.w.length c1) (.slice A2 y.p.length c2) (V.setCell ⟨gy, 0, none⟩ (.slice (some ⟨g', 0, none⟩) (y.s.length + 1) cap'))) :=
       Lib.hid fun U V g' cap' h hg ho => h.app0 (x := ⟨nm, src⟩) (by decide) (by decide) (by decide) (by decide) (by decide) hg ho
      go_wp2_with fail
      (refine wp_region_calm [gy, r0] [0, 1, 2, 3, 5] 6 (by kernel_rfl) rfl (by kernel_rfl) (by kernel_rfl) (by kernel_rfl) ?_; simp only [pickB, List.filterMap_cons, List.filterMap_nil, List.getElem?_toArray, List.getElem?_cons_zero, List.getElem?_cons_succ]; (repeat (first | ((first | (with_reducible refine quietL_plain rfl (fun K hK => ?_)) | (with_reducible refine quietL_want (by with_unfolding_all rfl) (fun K hK => ?_))); (apply Exists.intro; refine ⟨fun wx hx => ?_, ?_⟩; (· (have hcx := ifs_ex hx); simp [go_sem, *, ↓IntWalk.iteOmega] <;> (first | rfl | exact ⟨rfl, rfl⟩ | fail)); (simp only [Act.put, List.setIfInBounds_toArray, List.set_cons_zero, List.set_cons_succ]; refine hK _ ?_; clear hK K))) | ((with_reducible refine quietL_skip (by with_unfolding_all rfl) ?_); simp only [Act.put, List.setIfInBounds_toArray, List.set_cons_zero, List.set_cons_succ]))); refine quietL_nil ?_)
      refine anyB_two (i := 4) (j := 6) (by kernel_rfl) rfl rfl rfl rfl ?_ ?_
      · intro w8 hb8 K hK
        have cg8 := (HY6.out.kept hb8).box.cell
        have hs8 := hb8.size
        go_wp2
        refine ⟨xs_, ?_⟩
        refine anyB_one (i := 6) (by kernel_rfl) rfl rfl ?_
        intro w9 hb9 K hK
        have hs9 := hb9.size
        refine wp_bs 37 133 (.tmp 63) (.agg #[.string nm, .bool src]) #[.string nm, .bool src] rfl rfl (by kernel_rfl) (hK _ _ ⟨xs_, ?_⟩)
        clear hK K
        have HBL : Hid (∀ W', Below (w9.alloc (.cells #[.string nm, .bool src] 133)).heap.size (w9.alloc (.cells #[.string nm, .bool src] 133)) W' → Blk W' w9.heap.size 133 #[.string nm, .bool src]) := Lib.hid fun W' h => (Blk.new _ _ _).kept h
        have HLow : Hid (∀ W', Below (w9.alloc (.cells #[.string nm, .bool src] 133)).heap.size (w9.alloc (.cells #[.string nm, .bool src] 133)) W' → Below W6.heap.size W6 W') := Lib.hid fun W' h => (((hb8.trans (hb9.mono hs8)).alloc (by omega) _).trans (h.mono (by simp; omega)))
        as_aux_lemma =>
         refine anyB_one (i := 7) (by kernel_rfl) rfl rfl ?_
         intro wd hbd K hK
         have hWd := HLow.out wd hbd
         have hYd := HY6.out.kept hWd
         have hbl := HBL.out wd hbd
         have hsd := hWd.size
         refine wp_appB 37 133 2 24 elemSec (.tmp 62) (.tmp 64) rfl base _ _ _ rfl hYd.r0 w9.heap.size 1 _ rfl hbl rfl ?_ (by decide) ?_ ?_ ?_ ?_
         · intro u hu; simp at hu; first | (rcases hu with rfl | rfl <;> rfl) | (rcases hu with rfl | rfl | rfl | rfl | rfl <;> rfl)
         · unfold maxLen; omega
         · omega
         · omega
         intro g' cap' we hown hg hat
         have hXe : Ex [gy, r0] W6 we := (Ex.of_below hWd).trans (Ex.of_grown hg (fun r e => by rw [HR0.out r e]; simp))
         refine hK _ _ ⟨hXe, ?_⟩
         clear hK K hat
         have HG := Lib.hid hg
         have HO := Lib.hid hown
         have HYd := Lib.hid hYd
         have HWd := Lib.hid hWd
         have hbe := hYd.box.grown hg (own_neT hYd.r0 hYd.box (by decide))
         have HBe := Lib.hid hbe
         clear hown hg hYd hWd hbl hbe hbd
         as_aux_lemma =>
          (refine anyB_quiet_at (by kernel_rfl) calm_panic xs_ 1 [8, 9] _ _ (by kernel_rfl) (by decide +kernel) ?_; simp only [pickB, List.filterMap_cons, List.filterMap_nil, List.getElem?_toArray, List.getElem?_cons_zero, List.getElem?_cons_succ]; (repeat (first | ((first | (with_reducible refine quietL_plain rfl (fun K hK => ?_)) | (with_reducible refine quietL_want (by with_unfolding_all rfl) (fun K hK => ?_))); (apply Exists.intro; refine ⟨fun wx hx => ?_, ?_⟩; (· (have hcx := ifs_ex hx); simp [go_sem, *, ↓IntWalk.iteOmega] <;> (first | rfl | exact ⟨rfl, rfl⟩ | fail)); (simp only [Act.put, List.setIfInBounds_toArray, List.set_cons_zero, List.set_cons_succ]; refine hK _ ?_; clear hK K))) | ((with_reducible refine quietL_skip (by with_unfolding_all rfl) ?_); simp only [Act.put, List.setIfInBounds_toArray, List.set_cons_zero, List.set_cons_succ]))); refine quietL_nil ?_)
          refine anyB_one (i := 10) (by kernel_rfl) rfl rfl ?_
          intro wf hbf K hK
          have bg := HBe.out.kept hbf
          have cgf := bg.cell
          have fgf := bg.frozen
          have lgf := bg.lt
          have HN := Lib.hid (HAp.out _ _ _ _ HYd.out (grown_then HG.out hbf) (HO.out.kept hbf))
          have HFr := Lib.hid (((((Fr3.refl base gy 133 70 117 W6 (by omega)).below HWd.out).grown (by decide) HYd.out.r0 HG.out).below hbf).set (.inl rfl) 0 (.slice (some ⟨g', 0, none⟩) (y.s.length + 1) cap'))
          clear bg
          go_wp2
          refine ⟨xs_, ?_⟩
          refine anyB_end (by kernel_rfl) ?_
          intro wm hbm
          simp only [Calm]
          have HN2 := Lib.hid (HN.out.kept hbm)
          have HFr2 := Lib.hid (HFr.out.below hbm)
          clear HN HFr HG HO HYd HWd HBe
          go_wp2_with fail
          go_meet
          case rel => exact HEnd.out _ ⟨_, _, _, HN2.out⟩ (HFr0.out.trans HFr2.out) (HFr2.out.blk _ _ _ (by decide) (by decide) (by decide) (by omega) HBT6.out) (HFr2.out.blk _ _ _ (by decide) (by decide) (by decide) (by omega) HBK6.out)
      · intro w8 hb8 K hK
        have hs8 := hb8.size
        refine wp_bs 37 133 (.tmp 63) (.agg #[.string nm, .bool src]) #[.string nm, .bool src] rfl rfl (by kernel_rfl) (hK _ _ ⟨xs_, ?_⟩)
        clear hK K
        refine anyB_one (i := 4) (by kernel_rfl) rfl rfl ?_
        intro w9 hb9 K hK
        have hl9 : Below W6.heap.size W6 w9 := (hb8.alloc hs8 _).trans (hb9.mono (by simp; omega))
        have cg9 := (HY6.out.kept hl9).box.cell
        have hs9 := hl9.size
        have HL9 := Lib.hid hl9
        have HBL : Hid (∀ W', Below w9.heap.size w9 W' → Blk W' w8.heap.size 133 #[.string nm, .bool src]) := Lib.hid fun W' h => ((Blk.new _ _ _).kept hb9).kept h
        have HLow : Hid (∀ W', Below w9.heap.size w9 W' → Below W6.heap.size W6 W') := Lib.hid fun W' h => HL9.out.trans (h.mono hs9)
        clear hl9
        go_wp2
        refine ⟨xs_, ?_⟩
        as_aux_lemma =>
         refine anyB_one (i := 7) (by kernel_rfl) rfl rfl ?_
         intro wd hbd K hK
         have hWd := HLow.out wd hbd
         have hYd := HY6.out.kept hWd
         have hbl := HBL.out wd hbd
         have hsd := hWd.size
         refine wp_appB 37 133 2 24 elemSec (.tmp 62) (.tmp 64) rfl base _ _ _ rfl hYd.r0 w8.heap.size 1 _ rfl hbl rfl ?_ (by decide) ?_ ?_ ?_ ?_
         · intro u hu; simp at hu; first | (rcases hu with rfl | rfl <;> rfl) | (rcases hu with rfl | rfl | rfl | rfl | rfl <;> rfl)
         · unfold maxLen; omega
         · omega
         · omega
         intro g' cap' we hown hg hat
         have hXe : Ex [gy, r0] W6 we := (Ex.of_below hWd).trans (Ex.of_grown hg (fun r e => by rw [HR0.out r e]; simp))
         refine hK _ _ ⟨hXe, ?_⟩
         clear hK K hat
         have HG := Lib.hid hg
         have HO := Lib.hid hown
         have HYd := Lib.hid hYd
         have HWd := Lib.hid hWd
         have hbe := hYd.box.grown hg (own_neT hYd.r0 hYd.box (by decide))
         have HBe := Lib.hid hbe
         clear hown hg hYd hWd hbl hbe hbd
         as_aux_lemma =>
          (refine anyB_quiet_at (by kernel_rfl) calm_panic xs_ 1 [8, 9] _ _ (by kernel_rfl) (by decide +kernel) ?_; simp only [pickB, List.filterMap_cons, List.filterMap_nil, List.getElem?_toArray, List.getElem?_cons_zero, List.getElem?_cons_succ]; (repeat (first | ((first | (with_reducible refine quietL_plain rfl (fun K hK => ?_)) | (with_reducible refine quietL_want (by with_unfolding_all rfl) (fun K hK => ?_))); (apply Exists.intro; refine ⟨fun wx hx => ?_, ?_⟩; (· (have hcx := ifs_ex hx); simp [go_sem, *, ↓IntWalk.iteOmega] <;> (first | rfl | exact ⟨rfl, rfl⟩ | fail)); (simp only [Act.put, List.setIfInBounds_toArray, List.set_cons_zero, List.set_cons_succ]; refine hK _ ?_; clear hK K))) | ((with_reducible refine quietL_skip (by with_unfolding_all rfl) ?_); simp only [Act.put, List.setIfInBounds_toArray, List.set_cons_zero, List.set_cons_succ]))); refine quietL_nil ?_)
          refine anyB_one (i := 10) (by kernel_rfl) rfl rfl ?_
          intro wf hbf K hK
          have bg := HBe.out.kept hbf
          have cgf := bg.cell
          have fgf := bg.frozen
          have lgf := bg.lt
          have HN := Lib.hid (HAp.out _ _ _ _ HYd.out (grown_then HG.out hbf) (HO.out.kept hbf))
          have HFr := Lib.hid (((((Fr3.refl base gy 133 70 117 W6 (by omega)).below HWd.out).grown (by decide) HYd.out.r0 HG.out).below hbf).set (.inl rfl) 0 (.slice (some ⟨g', 0, none⟩) (y.s.length + 1) cap'))
          clear bg
          go_wp2
          refine ⟨xs_, ?_⟩
          refine anyB_end (by kernel_rfl) ?_
          intro wm hbm
          simp only [Calm]
          have HN2 := Lib.hid (HN.out.kept hbm)
          have HFr2 := Lib.hid (HFr.out.below hbm)
          clear HN HFr HG HO HYd HWd HBe
          go_wp2_with fail
          go_meet
          case rel => exact HEnd.out _ ⟨_, _, _, HN2.out⟩ (HFr0.out.trans HFr2.out) (HFr2.out.blk _ _ _ (by decide) (by decide) (by decide) (by omega) HBT6.out) (HFr2.out.blk _ _ _ (by decide) (by decide) (by decide) (by omega) HBK6.out)
   | false =>
    cases k2 : (k.toList == [112, 101, 114, 109, 105, 116]) with
    | true =>
     as_aux_lemma =>
      have k1' : (k.toList == sectionL) = false := k1
      have k2' : (k.toList == permitL) = true := k2
      have hP : prK y k st = prPm y st := by
       unfold prK
       rw [k1', k2']
       rfl
      have HP := Lib.hid hP
      clear hP HPk k1' k2'
      have lx2 := HS2.out.kb.lt
      go_wp2_with fail
      refine (tword_any bt st _ (HS2.out.kept bl_).tk (by omega)).mono ?_
      rintro e w3 ⟨rfl, ht3, hx3⟩
      have HS3 := Lib.hid ((HS2.out.kept bl_).word hx3 ht3)
      have bx3 : Blk w3 w2.heap.size 117 #[.string ⟨#[]⟩, .int .i64 0] := (hx3.block _ (by simp) (by have := HS2.out.o2; simp; omega)).trans (Blk.new _ _ _)
      have hb3 := tk_b HWB.out
      have hl3 := tk_len st
      have HPs : Hid (∀ v, v = tk (tk st).2 → prPm y st = (synE (v.2.2 || !v.2.1.isEmpty) (whenE (decide (secAtB y v.1 < 0)) 10), { y with p := y.p ++ [⟨(tk st).1, secAtB y v.1⟩] })) := Lib.hid fun v hv => by subst hv; rfl
      clear ht3 hx3
      generalize (tk st).2 = st3 at *
      generalize (tk st).1 = nm at *
      obtain ⟨hnm, hwb3⟩ := hb3
      have HWB3 := Lib.hid hwb3
      clear hwb3
      have c3 := bx3.cell
      have f3 := bx3.frozen
      have l3 := bx3.lt
      have BX3 := Lib.hid (bx3.set_ 0 (.string nm))
      have hlt3 : bt + 1 < w2.heap.size := lx2
      clear bx3
      generalize w2.heap.size = bx at *
      clear HS2
      go_wp2_with fail
      refine (tword_any bt st3 _ (HS3.out.set hlt3 0 (.string nm)).tk (by omega)).mono ?_
      rintro e w4 ⟨rfl, ht4, hx4⟩
      have HS4 := Lib.hid ((HS3.out.set hlt3 0 (.string nm)).word hx4 ht4)
      have BX4 : Hid (Blk w4 bx 117 #[.string nm, .int .i64 0]) := Lib.hid ((hx4.block _ (by simpa [World.setCell] using l3) (by simp; omega)).trans BX3.out)
      have hb4 := tk_b HWB3.out
      have hl4 := tk_len st3
      have HP2 := Lib.hid (HPs.out _ rfl)
      clear ht4 hx4 HS3 HPs BX3 c3 f3 l3
      generalize (tk st3).2 = st4 at *
      generalize (tk st3).1 = n2 at *
      obtain ⟨hn2, _⟩ := hb4
      have HRa := Lib.hid (rat_any gy w.heap.size (bt + 1) A0 A1 A2 y.s.length y.w.length y.p.length c0 c1 c2 y 0 n2 w4 HS4.out.pb (HY.out.kept HS4.out.low).box HS4.out.kb ((HYa.out.below HS4.out.low).more HS4.out.low.size) HF.out.s9 HF.out.sn (by unfold maxLen; omega))
      rw [show or0 0 (whenE (decide (secAtB y n2 < 0)) 10) = whenE (decide (secAtB y n2 < 0)) 10 from rfl] at HRa
      go_wp2_with fail
      refine HRa.out.mono ?_
      rintro e w5 ⟨rfl, hk5, hx5⟩
      have HS5 := Lib.hid (HS4.out.at_ hx5 hk5)
      have BX5 : Hid (Blk w5 bx 117 #[.string nm, .int .i64 0]) := Lib.hid ((hx5.block _ BX4.out.lt (by simp; omega)).trans BX4.out)
      clear hx5 hk5 HRa HS4 BX4
      generalize whenE (decide (secAtB y n2 < 0)) 10 = kn at *
      generalize secAtB y n2 = si at *
      have c5 := BX5.out.cell
      have f5 := BX5.out.frozen
      have l5 := BX5.out.lt
      go_upto_region 18 with fail
      have HS6 := Lib.hid (HS5.out.set hlt3 1 (.int .i64 si))
      have BX6 := Lib.hid (BX5.out.set_ 1 (.int .i64 si))
      clear HS5 BX5 c5 f5 l5
      refine wp_world ?_
      intro W6 hW
      rw [← hW] at HS6 BX6
      clear hW
      obtain ⟨q4, hq4⟩ : ∃ q4, q4 = st4.2 := ⟨_, rfl⟩
      obtain ⟨A, n, c, bt6, hnc, hrr⟩ := HS6.out.tk
      have hnr : st4.1.length = n := by have := hrr.1; simpa using this
      have HBT6 := Lib.hid bt6
      clear bt6 hrr
      have ob := HS6.out.o1
      have ob0 := HS6.out.o0
      have og := HY.out.box.lt
      have hn0 := HF.out.p9
      have HY6 := Lib.hid (HY.out.kept HS6.out.low)
      have HBK6 := Lib.hid HS6.out.kb
      have HFr0 := Lib.hid ((Fr3.refl base gy 133 70 117 w (by omega)).below HS6.out.low)
      have cp := HS6.out.pb.cell
      have lp := HS6.out.pb.lt
      have cx := BX6.out.cell
      have lx := BX6.out.lt
      have cg := HY6.out.box.cell
      have lg := HY6.out.box.lt
      have hs6 := HS6.out.low.size
      have HEnd : Hid (∀ wx, (∃ u0 u1 u2, YdO base gy 41 133 70 117 { y with p := y.p ++ [⟨nm, si⟩] } u0 u1 u2 wx) → Fr3 base gy 133 70 117 w wx → Blk wx bt 219 #[.slice A n c, .bool st4.2] → Blk wx (bt + 1) 34 #[.int .i64 kn] → RdEnd base gy bt (prK y k st) w wx) :=
       Lib.hid fun wx h1 h2 h3 h4 => by
        rw [HP.out, HP2.out]
        exact ⟨h1, h2, A, n, c, _, kn, h3, h4, by rw [← hnr, emp_len], by omega⟩
      obtain ⟨r0, hr0, hr1⟩ : ∃ r0, (∀ r, (Value.slice A2 y.p.length c2).ownBlock = some r → r = r0) ∧ r0 < w.heap.size := by
       cases h : (Value.slice A2 y.p.length c2).ownBlock with
       | none => exact ⟨gy, fun r e => (by cases e), og⟩
       | some r => exact ⟨r, fun z e => (by cases e; rfl), (HY.out.r2.lt r h).2⟩
      have HR0 := Lib.hid hr0
      clear hr0
      have HAp : Hid (∀ U V g' cap', YdO base gy 41 133 70 117 y (.slice A0 y.s.length c0) (.slice A1 y.w.length c1) (.slice A2 y.p.length c2) U → U.grownBy V (Value.slice A2 y.p.length c2).ownBlock → Own V base 117 2 g' (y.p.length + 1) cap' (pms y.p ++ (#[.string nm, .int .i64 si] : Array Value).toList) → YdO base gy 41 133 70 117 { y with p := y.p ++ [⟨nm, si⟩] } (.slice A0 y.s.length c0) (.slice A1 y.w.length c1) (.slice (some ⟨g', 0, none⟩) (y.p.length + 1) cap') (V.setCell ⟨gy, 2, none⟩ (.slice (some ⟨g', 0, none⟩) (y.p.length + 1) cap'))) :=
       Lib.hid fun U V g' cap' h hg ho => h.app2 (x := ⟨nm, si⟩) (by decide) (by decide) (by decide) (by decide) (by decide) hg ho
      as_aux_lemma =>
       go_wp2_with fail
       (refine wp_region_calm [gy, r0] [0, 1, 2, 3, 5] 6 (by kernel_rfl) rfl (by kernel_rfl) (by kernel_rfl) (by kernel_rfl) ?_; simp only [pickB, List.filterMap_cons, List.filterMap_nil, List.getElem?_toArray, List.getElem?_cons_zero, List.getElem?_cons_succ]; (repeat (first | ((first | (with_reducible refine quietL_plain rfl (fun K hK => ?_)) | (with_reducible refine quietL_want (by with_unfolding_all rfl) (fun K hK => ?_))); (apply Exists.intro; refine ⟨fun wx hx => ?_, ?_⟩; (· (have hcx := ifs_ex hx); simp [go_sem, *, ↓IntWalk.iteOmega] <;> (first | rfl | exact ⟨rfl, rfl⟩ | fail)); (simp only [Act.put, List.setIfInBounds_toArray, List.set_cons_zero, List.set_cons_succ]; refine hK _ ?_; clear hK K))) | ((with_reducible refine quietL_skip (by with_unfolding_all rfl) ?_); simp only [Act.put, List.setIfInBounds_toArray, List.set_cons_zero, List.set_cons_succ]))); refine quietL_nil ?_)
       refine anyB_two (i := 4) (j := 6) (by kernel_rfl) rfl rfl rfl rfl ?_ ?_
       · intro w8 hb8 K hK
         have cg8 := (HY6.out.kept hb8).box.cell
         have hs8 := hb8.size
         go_wp2
         refine ⟨xs_, ?_⟩
         refine anyB_one (i := 6) (by kernel_rfl) rfl rfl ?_
         intro w9 hb9 K hK
         have hs9 := hb9.size
         refine wp_bs 39 117 (.tmp 85) (.agg #[.string nm, .int .i64 si]) #[.string nm, .int .i64 si] rfl rfl (by kernel_rfl) (hK _ _ ⟨xs_, ?_⟩)
         clear hK K
         have HBL : Hid (∀ W', Below (w9.alloc (.cells #[.string nm, .int .i64 si] 117)).heap.size (w9.alloc (.cells #[.string nm, .int .i64 si] 117)) W' → Blk W' w9.heap.size 117 #[.string nm, .int .i64 si]) := Lib.hid fun W' h => (Blk.new _ _ _).kept h
         have HLow : Hid (∀ W', Below (w9.alloc (.cells #[.string nm, .int .i64 si] 117)).heap.size (w9.alloc (.cells #[.string nm, .int .i64 si] 117)) W' → Below W6.heap.size W6 W') := Lib.hid fun W' h => (((hb8.trans (hb9.mono hs8)).alloc (by omega) _).trans (h.mono (by simp; omega)))
         as_aux_lemma =>
          refine anyB_one (i := 7) (by kernel_rfl) rfl rfl ?_
          intro wd hbd K hK
          have hWd := HLow.out wd hbd
          have hYd := HY6.out.kept hWd
          have hbl := HBL.out wd hbd
          have hsd := hWd.size
          refine wp_appB 39 117 2 24 elemPm (.tmp 84) (.tmp 86) rfl base _ _ _ rfl hYd.r2 w9.heap.size 1 _ rfl hbl rfl ?_ (by decide) ?_ ?_ ?_ ?_
          · intro u hu; simp at hu; first | (rcases hu with rfl | rfl <;> rfl) | (rcases hu with rfl | rfl | rfl | rfl | rfl <;> rfl)
          · unfold maxLen; omega
          · omega
          · omega
          intro g' cap' we hown hg hat
          have hXe : Ex [gy, r0] W6 we := (Ex.of_below hWd).trans (Ex.of_grown hg (fun r e => by rw [HR0.out r e]; simp))
          refine hK _ _ ⟨hXe, ?_⟩
          clear hK K hat
          have HG := Lib.hid hg
          have HO := Lib.hid hown
          have HYd := Lib.hid hYd
          have HWd := Lib.hid hWd
          have hbe := hYd.box.grown hg (own_neT hYd.r2 hYd.box (by decide))
          have HBe := Lib.hid hbe
          clear hown hg hYd hWd hbl hbe hbd
          as_aux_lemma =>
           (refine anyB_quiet_at (by kernel_rfl) calm_panic xs_ 1 [8, 9] _ _ (by kernel_rfl) (by decide +kernel) ?_; simp only [pickB, List.filterMap_cons, List.filterMap_nil, List.getElem?_toArray, List.getElem?_cons_zero, List.getElem?_cons_succ]; (repeat (first | ((first | (with_reducible refine quietL_plain rfl (fun K hK => ?_)) | (with_reducible refine quietL_want (by with_unfolding_all rfl) (fun K hK => ?_))); (apply Exists.intro; refine ⟨fun wx hx => ?_, ?_⟩; (· (have hcx := ifs_ex hx); simp [go_sem, *, ↓IntWalk.iteOmega] <;> (first | rfl | exact ⟨rfl, rfl⟩ | fail)); (simp only [Act.put, List.setIfInBounds_toArray, List.set_cons_zero, List.set_cons_succ]; refine hK _ ?_; clear hK K))) | ((with_reducible refine quietL_skip (by with_unfolding_all rfl) ?_); simp only [Act.put, List.setIfInBounds_toArray, List.set_cons_zero, List.set_cons_succ]))); refine quietL_nil ?_)
           refine anyB_one (i := 10) (by kernel_rfl) rfl rfl ?_
           intro wf hbf K hK
           have bg := HBe.out.kept hbf
           have cgf := bg.cell
           have fgf := bg.frozen
           have lgf := bg.lt
           have HN := Lib.hid (HAp.out _ _ _ _ HYd.out (grown_then HG.out hbf) (HO.out.kept hbf))
           have HFr := Lib.hid (((((Fr3.refl base gy 133 70 117 W6 (by omega)).below HWd.out).grown (by decide) HYd.out.r2 HG.out).below hbf).set (.inl rfl) 2 (.slice (some ⟨g', 0, none⟩) (y.p.length + 1) cap'))
           clear bg
           go_wp2
           refine ⟨xs_, ?_⟩
           refine anyB_end (by kernel_rfl) ?_
           intro wm hbm
           simp only [Calm]
           have HN2 := Lib.hid (HN.out.kept hbm)
           have HFr2 := Lib.hid (HFr.out.below hbm)
           clear HN HFr HG HO HYd HWd HBe
           go_wp2_with fail
           go_meet
           case rel => exact HEnd.out _ ⟨_, _, _, HN2.out⟩ (HFr0.out.trans HFr2.out) (HFr2.out.blk _ _ _ (by decide) (by decide) (by decide) (by omega) HBT6.out) (HFr2.out.blk _ _ _ (by decide) (by decide) (by decide) (by omega) HBK6.out)
       · intro w8 hb8 K hK
         have hs8 := hb8.size
         refine wp_bs 39 117 (.tmp 85) (.agg #[.string nm, .int .i64 si]) #[.string nm, .int .i64 si] rfl rfl (by kernel_rfl) (hK _ _ ⟨xs_, ?_⟩)
         clear hK K
         refine anyB_one (i := 4) (by kernel_rfl) rfl rfl ?_
         intro w9 hb9 K hK
         have hl9 : Below W6.heap.size W6 w9 := (hb8.alloc hs8 _).trans (hb9.mono (by simp; omega))
         have cg9 := (HY6.out.kept hl9).box.cell
         have hs9 := hl9.size
         have HL9 := Lib.hid hl9
         have HBL : Hid (∀ W', Below w9.heap.size w9 W' → Blk W' w8.heap.size 117 #[.string nm, .int .i64 si]) := Lib.hid fun W' h => ((Blk.new _ _ _).kept hb9).kept h
         have HLow : Hid (∀ W', Below w9.heap.size w9 W' → Below W6.heap.size W6 W') := Lib.hid fun W' h => HL9.out.trans (h.mono hs9)
         clear hl9
         go_wp2
         refine ⟨xs_, ?_⟩
         as_aux_lemma =>
          refine anyB_one (i := 7) (by kernel_rfl) rfl rfl ?_
          intro wd hbd K hK
          have hWd := HLow.out wd hbd
          have hYd := HY6.out.kept hWd
          have hbl := HBL.out wd hbd
          have hsd := hWd.size
          refine wp_appB 39 117 2 24 elemPm (.tmp 84) (.tmp 86) rfl base _ _ _ rfl hYd.r2 w8.heap.size 1 _ rfl hbl rfl ?_ (by decide) ?_ ?_ ?_ ?_
          · intro u hu; simp at hu; first | (rcases hu with rfl | rfl <;> rfl) | (rcases hu with rfl | rfl | rfl | rfl | rfl <;> rfl)
          · unfold maxLen; omega
          · omega
          · omega
          intro g' cap' we hown hg hat
          have hXe : Ex [gy, r0] W6 we := (Ex.of_below hWd).trans (Ex.of_grown hg (fun r e => by rw [HR0.out r e]; simp))
          refine hK _ _ ⟨hXe, ?_⟩
          clear hK K hat
          have HG := Lib.hid hg
          have HO := Lib.hid hown
          have HYd := Lib.hid hYd
          have HWd := Lib.hid hWd
          have hbe := hYd.box.grown hg (own_neT hYd.r2 hYd.box (by decide))
          have HBe := Lib.hid hbe
          clear hown hg hYd hWd hbl hbe hbd
          as_aux_lemma =>
           (refine anyB_quiet_at (by kernel_rfl) calm_panic xs_ 1 [8, 9] _ _ (by kernel_rfl) (by decide +kernel) ?_; simp only [pickB, List.filterMap_cons, List.filterMap_nil, List.getElem?_toArray, List.getElem?_cons_zero, List.getElem?_cons_succ]; (repeat (first | ((first | (with_reducible refine quietL_plain rfl (fun K hK => ?_)) | (with_reducible refine quietL_want (by with_unfolding_all rfl) (fun K hK => ?_))); (apply Exists.intro; refine ⟨fun wx hx => ?_, ?_⟩; (· (have hcx := ifs_ex hx); simp [go_sem, *, ↓IntWalk.iteOmega] <;> (first | rfl | exact ⟨rfl, rfl⟩ | fail)); (simp only [Act.put, List.setIfInBounds_toArray, List.set_cons_zero, List.set_cons_succ]; refine hK _ ?_; clear hK K))) | ((with_reducible refine quietL_skip (by with_unfolding_all rfl) ?_); simp only [Act.put, List.setIfInBounds_toArray, List.set_cons_zero, List.set_cons_succ]))); refine quietL_nil ?_)
           refine anyB_one (i := 10) (by kernel_rfl) rfl rfl ?_
           intro wf hbf K hK
           have bg := HBe.out.kept hbf
           have cgf := bg.cell
           have fgf := bg.frozen
           have lgf := bg.lt
           have HN := Lib.hid (HAp.out _ _ _ _ HYd.out (grown_then HG.out hbf) (HO.out.kept hbf))
           have HFr := Lib.hid (((((Fr3.refl base gy 133 70 117 W6 (by omega)).below HWd.out).grown (by decide) HYd.out.r2 HG.out).below hbf).set (.inl rfl) 2 (.slice (some ⟨g', 0, none⟩) (y.p.length + 1) cap'))
           clear bg
           go_wp2
           refine ⟨xs_, ?_⟩
           refine anyB_end (by kernel_rfl) ?_
           intro wm hbm
           simp only [Calm]
           have HN2 := Lib.hid (HN.out.kept hbm)
           have HFr2 := Lib.hid (HFr.out.below hbm)
           clear HN HFr HG HO HYd HWd HBe
           go_wp2_with fail
           go_meet
           case rel => exact HEnd.out _ ⟨_, _, _, HN2.out⟩ (HFr0.out.trans HFr2.out) (HFr2.out.blk _ _ _ (by decide) (by decide) (by decide) (by omega) HBT6.out) (HFr2.out.blk _ _ _ (by decide) (by decide) (by decide) (by omega) HBK6.out)
    | false =>
     have k1' : (k.toList == sectionL) = false := k1
     have k2' : (k.toList == permitL) = false := k2
     have hP : prK y k st = if kindB k then prSw y k st else (25, y) := by
      unfold prK
      rw [k1', k2']
      rfl
     have HP := Lib.hid hP
     have HC := Lib.hid (ContainsW_any w2.heap.size _ 3 3 kindsL k w2 (HT.out.kept HS2.out.low).kinds (by unfold maxLen; decide))
     rw [hasW_kinds] at HC
     clear hP HPk k1' k2'
     cases hkb : kindB k with
     | false =>
      as_aux_lemma =>
       rw [hkb] at HP HC
       have hbt := HS2.out.tk
       obtain ⟨A, n, c, bt2, hnc, hrr⟩ := hbt
       have cb := bt2.cell
       have fb := bt2.frozen
       have lb := bt2.lt
       have HBT := Lib.hid bt2
       have hnr : st.1.length = n := by have := hrr.1; simpa using this
       clear bt2 hrr
       go_wp2_with fail
       refine HC.out.mono ?_
       rintro e w3 ⟨rfl, rfl⟩
       go_wp2_with fail
       go_meet
       case rel =>
        rw [HP.out]
        have ob0 := HS2.out.o0
        have ob1 := HS2.out.o1
        have og := HY.out.box.lt
        have hx : Ex [bt] w2 (w2.setCell ⟨bt, 1, none⟩ (.bool true)) := (Ex.refl [bt] w2).set_in (p := ⟨bt, 1, none⟩) (.inl (List.mem_singleton.2 rfl)) _
        have hlow := ex_low HS2.out.low hx (fun j hj => by rw [List.mem_singleton.1 hj]; omega)
        exact ⟨⟨_, _, _, HY.out.kept hlow⟩, (Fr3.refl _ _ _ _ _ _ hb).below hlow, A, n, c, true, 0, HBT.out.set_ 1 _, HS2.out.kb.far (by simp) _, rfl, by omega⟩
     | true =>
      as_aux_lemma =>
       rw [hkb] at HP HC
       have lx2 := HS2.out.kb.lt
       go_wp2_with fail
       refine HC.out.mono ?_
       rintro e w3 ⟨rfl, rfl⟩
       go_wp2_with fail
       refine (tword_any bt st _ (HS2.out.kept bl_).tk (by omega)).mono ?_
       rintro e w3 ⟨rfl, ht3, hx3⟩
       have HS3 := Lib.hid ((HS2.out.kept bl_).word hx3 ht3)
       have bx3 : Blk w3 w2.heap.size 70 #[.string ⟨#[]⟩, .string k, .int .i64 0, .int .i64 (-1), .bool false] := (hx3.block _ (by simp) (by have := HS2.out.o2; simp; omega)).trans (Blk.new _ _ _)
       have hb3 := tk_b HWB.out
       have hl3 := tk_len st
       have HPs : Hid (∀ v, v = tk (tk st).2 → prSw y k st = if k.toList == earthL then prTail y k (tk st).1 (secAtB y v.1) (-1) (whenE (decide (secAtB y v.1 < 0)) 10) (tk v.2) else prTail y k (tk st).1 (secAtB y v.1) (secAtB y (tk v.2).1) (or0 (whenE (decide (secAtB y v.1 < 0)) 10) (whenE (decide (secAtB y (tk v.2).1 < 0)) 10)) (tk (tk v.2).2)) := Lib.hid fun v hv => by subst hv; rfl
       clear ht3 hx3 HC
       generalize (tk st).2 = st3 at *
       generalize (tk st).1 = nm at *
       obtain ⟨hnm, hwb3⟩ := hb3
       have HWB3 := Lib.hid hwb3
       clear hwb3
       have c3 := bx3.cell
       have f3 := bx3.frozen
       have l3 := bx3.lt
       have BX3 := Lib.hid (bx3.set_ 0 (.string nm))
       have hlt3 : bt + 1 < w2.heap.size := lx2
       clear bx3
       generalize w2.heap.size = bx at *
       clear HS2
       go_wp2_with fail
       refine (tword_any bt st3 _ (HS3.out.set hlt3 0 (.string nm)).tk (by omega)).mono ?_
       rintro e w4 ⟨rfl, ht4, hx4⟩
       have HS4 := Lib.hid ((HS3.out.set hlt3 0 (.string nm)).word hx4 ht4)
       have BX4 : Hid (Blk w4 bx 70 #[.string nm, .string k, .int .i64 0, .int .i64 (-1), .bool false]) := Lib.hid ((hx4.block _ (by simpa [World.setCell] using l3) (by simp; omega)).trans BX3.out)
       have hb4 := tk_b HWB3.out
       have hl4 := tk_len st3
       have HP2 := Lib.hid (HPs.out _ rfl)
       clear ht4 hx4 HS3 HPs BX3 c3 f3 l3
       generalize (tk st3).2 = st4 at *
       generalize (tk st3).1 = n2 at *
       obtain ⟨hn2, hwb4⟩ := hb4
       have HWB4 := Lib.hid hwb4
       clear hwb4
       have HRa := Lib.hid (rat_any gy w.heap.size (bt + 1) A0 A1 A2 y.s.length y.w.length y.p.length c0 c1 c2 y 0 n2 w4 HS4.out.pb (HY.out.kept HS4.out.low).box HS4.out.kb ((HYa.out.below HS4.out.low).more HS4.out.low.size) HF.out.s9 HF.out.sn (by unfold maxLen; omega))
       rw [show or0 0 (whenE (decide (secAtB y n2 < 0)) 10) = whenE (decide (secAtB y n2 < 0)) 10 from rfl] at HRa
       go_wp2_with fail
       refine HRa.out.mono ?_
       rintro e w5 ⟨rfl, hk5, hx5⟩
       have HS5 := Lib.hid (HS4.out.at_ hx5 hk5)
       have BX5 : Hid (Blk w5 bx 70 #[.string nm, .string k, .int .i64 0, .int .i64 (-1), .bool false]) := Lib.hid ((hx5.block _ BX4.out.lt (by simp; omega)).trans BX4.out)
       clear hx5 hk5 HRa HS4 BX4
       generalize whenE (decide (secAtB y n2 < 0)) 10 = kn at *
       generalize secAtB y n2 = si at *
       have c5 := BX5.out.cell
       have f5 := BX5.out.frozen
       have l5 := BX5.out.lt
       have HS5' := Lib.hid (HS5.out.set hlt3 2 (.int .i64 si))
       have BX5' := Lib.hid (BX5.out.set_ 2 (.int .i64 si))
       go_upto_region 24 with fail
       clear HS5 BX5 c5 f5 l5
       cases k3 : (k.toList == [101, 97, 114, 116, 104]) with
       | true =>
        as_aux_lemma =>
         have k3' : (k.toList == earthL) = true := k3
         have HP3 : Hid (prK y k st = prTail y k nm si (-1) kn (tk st4)) := Lib.hid (by rw [HP.out, if_pos trivial, HP2.out, if_pos k3'])
         clear HP HP2 k3'
         have HS7 := HS5'
         have BX7 := BX5'
         clear HS5' BX5'
         have c5 := BX7.out.cell
         have f5 := BX7.out.frozen
         have l5 := BX7.out.lt
         go_wp2_with fail
         refine (teither_any bt st4 ⟨#[99, 108, 111, 115, 101, 100]⟩ ⟨#[111, 112, 101, 110]⟩ _ HS7.out.tk (by omega)).mono ?_
         rintro e w8 ⟨rfl, ht8, hx8⟩
         have e1 : (⟨#[99, 108, 111, 115, 101, 100]⟩ : ByteArray).toList = closedL := by rw [toList_data]; rfl
         have e2 : (⟨#[111, 112, 101, 110]⟩ : ByteArray).toList = openL := by rw [toList_data]; rfl
         rw [e1, e2] at ht8
         rw [e1]
         clear e1 e2
         have HS8 := Lib.hid (HS7.out.word hx8 ht8)
         have BX8 : Hid (Blk w8 bx 70 #[.string nm, .string k, .int .i64 si, .int .i64 (-1), .bool false]) := Lib.hid ((hx8.block _ BX7.out.lt (by simp; omega)).trans BX7.out)
         have HE8 : Hid (tkE st4 closedL openL = ((tk st4).2.1, (tk st4).2.2 || !((tk st4).1.toList == closedL || (tk st4).1.toList == openL))) := Lib.hid rfl
         rw [HE8.out] at HS8
         have HP4 : Hid (prK y k st = (synE (((tk st4).2.2 || !((tk st4).1.toList == closedL || (tk st4).1.toList == openL)) || decide (0 < y.p.length) || !(tk st4).2.1.isEmpty) kn, { y with w := y.w ++ [⟨nm, k, si, -1, (tk st4).1.toList == closedL⟩] })) := Lib.hid (by rw [HP3.out]; rfl)
         have hl8 := tk_len st4
         clear ht8 hx8 HS7 HE8 HP3 BX7 c5 f5 l5
         generalize ((tk st4).2.2 || !((tk st4).1.toList == closedL || (tk st4).1.toList == openL)) = q4 at *
         generalize (tk st4).2.1 = r4 at *
         generalize ((tk st4).1.toList == closedL) = cl at *
         have c8 := BX8.out.cell
         have f8 := BX8.out.frozen
         have l8 := BX8.out.lt
         have HS9 := Lib.hid (HS8.out.set hlt3 4 (.bool cl))
         have BX9 := Lib.hid (BX8.out.set_ 4 (.bool cl))
         go_upto_region 28 with fail
         clear HS8 BX8 c8 f8 l8
         refine wp_world ?_
         intro W hW
         rw [← hW] at HS9 BX9
         clear hW
         obtain ⟨A, n, c, bt5, hnc, hrr⟩ := HS9.out.tk
         have hYW := HY.out.kept HS9.out.low
         have hnr : r4.length = n := by have := hrr.1; simpa using this
         have ct := bt5.cell
         have ft := bt5.frozen
         have lt := bt5.lt
         have cp := HS9.out.pb.cell
         have lp := HS9.out.pb.lt
         have cg := hYW.box.cell
         have lg := hYW.box.lt
         have hn1 := HF.out.w9
         have hn2' := HF.out.p9
         have ob := HS9.out.o1
         have ob0 := HS9.out.o0
         have og := HY.out.box.lt
         have HBT := Lib.hid bt5
         have HHR := Lib.hid hrr
         have hdI : decide ((0 : Int) < (y.p.length : Int)) = decide (0 < y.p.length) := by
          by_cases h : 0 < y.p.length
          · rw [decide_eq_true h, decide_eq_true (by omega)]
          · rw [decide_eq_false h, decide_eq_false (by omega)]
         clear bt5 hrr hYW
         generalize decide (0 < y.p.length) = dq at *
         go_cut [] (fun wx => Blk wx bt 219 #[.slice A n c, .bool (q4 || dq)] ∧ Ex [bt] W wx)
         case first =>
          as_aux_lemma =>
           cases q4 with
           | true =>
            go_wp2_with fail
            go_meet
            case rel => exact ⟨HBT.out.set_ 1 _, (Ex.refl [bt] W).set_in (p := ⟨bt, 1, none⟩) (.inl (List.mem_singleton.2 rfl)) _⟩
           | false =>
            cases dq with
            | true =>
             have hd0 : (0 : Int) < (y.p.length : Int) := of_decide_eq_true hdI
             have hd1 : 0 < y.p.length := by omega
             go_wp2_with fail
             go_meet
             case rel => exact ⟨HBT.out.set_ 1 _, (Ex.refl [bt] W).set_in (p := ⟨bt, 1, none⟩) (.inl (List.mem_singleton.2 rfl)) _⟩
            | false =>
             have hd0 : ¬ (0 : Int) < (y.p.length : Int) := of_decide_eq_false hdI
             have hd1 : ¬ 0 < y.p.length := by omega
             go_wp2_with fail
             go_meet
             case rel => exact ⟨HBT.out.set_ 1 _, (Ex.refl [bt] W).set_in (p := ⟨bt, 1, none⟩) (.inl (List.mem_singleton.2 rfl)) _⟩
         obtain ⟨bt6, hx6⟩ := hcut
         have HS6 := Lib.hid (HS9.out.word (st' := (r4, q4 || dq)) hx6 ⟨A, n, c, bt6, hnc, HHR.out.exT hx6 (fun k hk => by rw [List.mem_singleton.1 hk]; exact Nat.le_refl _) (by omega)⟩)
         have BX6 : Hid (Blk wc bx 70 #[.string nm, .string k, .int .i64 si, .int .i64 (-1), .bool cl]) := Lib.hid ((hx6.block _ BX9.out.lt (by simp; omega)).trans BX9.out)
         have HBT6 := Lib.hid bt6
         rename World => W6
         clear HS9 hx6 HBT HHR ct ft lt cp lp cg lg BX9 bt6 hdI
         have HY6 := Lib.hid (HY.out.kept HS6.out.low)
         have HBK6 := Lib.hid HS6.out.kb
         have HFr0 := Lib.hid ((Fr3.refl base gy 133 70 117 w (by omega)).below HS6.out.low)
         have cp := HS6.out.pb.cell
         have lp := HS6.out.pb.lt
         have cx := BX6.out.cell
         have lx := BX6.out.lt
         have cg := HY6.out.box.cell
         have lg := HY6.out.box.lt
         have hs6 := HS6.out.low.size
         go_upto_region 29 with fail
         as_aux_lemma =>
          have HEnd : Hid (∀ wx, (∃ u0 u1 u2, YdO base gy 41 133 70 117 { y with w := y.w ++ [⟨nm, k, si, -1, cl⟩] } u0 u1 u2 wx) → Fr3 base gy 133 70 117 w wx → Blk wx bt 219 #[.slice A n c, .bool (q4 || dq)] → Blk wx (bt + 1) 34 #[.int .i64 kn] → RdEnd base gy bt (prK y k st) w wx) :=
           Lib.hid fun wx h1 h2 h3 h4 => by
            rw [HP4.out]
            exact ⟨h1, h2, A, n, c, _, kn, h3, h4, by rw [← hnr, emp_len], by omega⟩
          obtain ⟨r0, hr0, hr1⟩ : ∃ r0, (∀ r, (Value.slice A1 y.w.length c1).ownBlock = some r → r = r0) ∧ r0 < w.heap.size := by
           cases h : (Value.slice A1 y.w.length c1).ownBlock with
           | none => exact ⟨gy, fun r e => (by cases e), og⟩
           | some r => exact ⟨r, fun z e => (by cases e; rfl), (HY.out.r1.lt r h).2⟩
          have HR0 := Lib.hid hr0
          clear hr0
          have HAp : Hid (∀ U V g' cap', YdO base gy 41 133 70 117 y (.slice A0 y.s.length c0) (.slice A1 y.w.length c1) (.slice A2 y.p.length c2) U → U.grownBy V (Value.slice A1 y.w.length c1).ownBlock → Own V base 70 5 g' (y.w.length + 1) cap' (sws y.w ++ (#[.string nm, .string k, .int .i64 si, .int .i64 (-1), .bool cl] : Array Value).toList) → YdO base gy 41 133 70 117 { y with w := y.w ++ [⟨nm, k, si, -1, cl⟩] } (.slice A0 y.s.length c0) (.slice (some ⟨g', 0, none⟩) (y.w.length + 1) cap') (.slice A2 y.p.length c2) (V.setCell ⟨gy, 1, none⟩ (.slice (some ⟨g', 0, none⟩) (y.w.length + 1) cap'))) :=
           Lib.hid fun U V g' cap' h hg ho => h.app1 (x := ⟨nm, k, si, -1, cl⟩) (by decide) (by decide) (by decide) (by decide) (by decide) hg ho
          clear HP4 HS6 HT HWB hnr hnc
          try clear hl3 hl4 hl8 hnm hn2 hst hk0 hs hn2'
          try clear hl6 hn3
          try clear HWB3 HWB4 HF HYa
          as_aux_lemma =>
           go_wp2_with fail
           (refine wp_region_calm [gy, r0] [0, 1, 2, 3, 5] 6 (by kernel_rfl) rfl (by kernel_rfl) (by kernel_rfl) (by kernel_rfl) ?_; simp only [pickB, List.filterMap_cons, List.filterMap_nil, List.getElem?_toArray, List.getElem?_cons_zero, List.getElem?_cons_succ]; (repeat (first | ((first | (with_reducible refine quietL_plain rfl (fun K hK => ?_)) | (with_reducible refine quietL_want (by with_unfolding_all rfl) (fun K hK => ?_))); (apply Exists.intro; refine ⟨fun wx hx => ?_, ?_⟩; (· (have hcx := ifs_ex hx); simp [go_sem, *, ↓IntWalk.iteOmega] <;> (first | rfl | exact ⟨rfl, rfl⟩ | fail)); (simp only [Act.put, List.setIfInBounds_toArray, List.set_cons_zero, List.set_cons_succ]; refine hK _ ?_; clear hK K))) | ((with_reducible refine quietL_skip (by with_unfolding_all rfl) ?_); simp only [Act.put, List.setIfInBounds_toArray, List.set_cons_zero, List.set_cons_succ]))); refine quietL_nil ?_)
           as_aux_lemma =>
            refine anyB_two (i := 4) (j := 6) (by kernel_rfl) rfl rfl rfl rfl ?_ ?_
            · intro w8 hb8 K hK
              have cg8 := (HY6.out.kept hb8).box.cell
              have hs8 := hb8.size
              go_wp2
              refine ⟨xs_, ?_⟩
              refine anyB_one (i := 6) (by kernel_rfl) rfl rfl ?_
              intro w9 hb9 K hK
              have hs9 := hb9.size
              refine wp_bs 38 70 (.tmp 136) (.agg #[.string nm, .string k, .int .i64 si, .int .i64 (-1), .bool cl]) #[.string nm, .string k, .int .i64 si, .int .i64 (-1), .bool cl] rfl rfl (by kernel_rfl) (hK _ _ ⟨xs_, ?_⟩)
              clear hK K
              have HBL : Hid (∀ W', Below (w9.alloc (.cells #[.string nm, .string k, .int .i64 si, .int .i64 (-1), .bool cl] 70)).heap.size (w9.alloc (.cells #[.string nm, .string k, .int .i64 si, .int .i64 (-1), .bool cl] 70)) W' → Blk W' w9.heap.size 70 #[.string nm, .string k, .int .i64 si, .int .i64 (-1), .bool cl]) := Lib.hid fun W' h => (Blk.new _ _ _).kept h
              have HLow : Hid (∀ W', Below (w9.alloc (.cells #[.string nm, .string k, .int .i64 si, .int .i64 (-1), .bool cl] 70)).heap.size (w9.alloc (.cells #[.string nm, .string k, .int .i64 si, .int .i64 (-1), .bool cl] 70)) W' → Below W6.heap.size W6 W') := Lib.hid fun W' h => (((hb8.trans (hb9.mono hs8)).alloc (by omega) _).trans (h.mono (by simp; omega)))
              as_aux_lemma =>
               refine anyB_one (i := 7) (by kernel_rfl) rfl rfl ?_
               intro wd hbd K hK
               have hWd := HLow.out wd hbd
               have hYd := HY6.out.kept hWd
               have hbl := HBL.out wd hbd
               have hsd := hWd.size
               refine wp_appB 38 70 5 56 elemSw (.tmp 135) (.tmp 137) rfl base _ _ _ rfl hYd.r1 w9.heap.size 1 _ rfl hbl rfl ?_ (by decide) ?_ ?_ ?_ ?_
               · intro u hu; simp at hu; first | (rcases hu with rfl | rfl <;> rfl) | (rcases hu with rfl | rfl | rfl | rfl | rfl <;> rfl)
               · unfold maxLen; omega
               · omega
               · omega
               intro g' cap' we hown hg hat
               have hXe : Ex [gy, r0] W6 we := (Ex.of_below hWd).trans (Ex.of_grown hg (fun r e => by rw [HR0.out r e]; simp))
               refine hK _ _ ⟨hXe, ?_⟩
               clear hK K hat
               have HG := Lib.hid hg
               have HO := Lib.hid hown
               have HYd := Lib.hid hYd
               have HWd := Lib.hid hWd
               have hbe := hYd.box.grown hg (own_neT hYd.r1 hYd.box (by decide))
               have HBe := Lib.hid hbe
               clear hown hg hYd hWd hbl hbe hbd
               as_aux_lemma =>
                (refine anyB_quiet_at (by kernel_rfl) calm_panic xs_ 1 [8, 9] _ _ (by kernel_rfl) (by decide +kernel) ?_; simp only [pickB, List.filterMap_cons, List.filterMap_nil, List.getElem?_toArray, List.getElem?_cons_zero, List.getElem?_cons_succ]; (repeat (first | ((first | (with_reducible refine quietL_plain rfl (fun K hK => ?_)) | (with_reducible refine quietL_want (by with_unfolding_all rfl) (fun K hK => ?_))); (apply Exists.intro; refine ⟨fun wx hx => ?_, ?_⟩; (· (have hcx := ifs_ex hx); simp [go_sem, *, ↓IntWalk.iteOmega] <;> (first | rfl | exact ⟨rfl, rfl⟩ | fail)); (simp only [Act.put, List.setIfInBounds_toArray, List.set_cons_zero, List.set_cons_succ]; refine hK _ ?_; clear hK K))) | ((with_reducible refine quietL_skip (by with_unfolding_all rfl) ?_); simp only [Act.put, List.setIfInBounds_toArray, List.set_cons_zero, List.set_cons_succ]))); refine quietL_nil ?_)
                refine anyB_one (i := 10) (by kernel_rfl) rfl rfl ?_
                intro wf hbf K hK
                have bg := HBe.out.kept hbf
                have cgf := bg.cell
                have fgf := bg.frozen
                have lgf := bg.lt
                have HN := Lib.hid (HAp.out _ _ _ _ HYd.out (grown_then HG.out hbf) (HO.out.kept hbf))
                have HFr := Lib.hid (((((Fr3.refl base gy 133 70 117 W6 (by omega)).below HWd.out).grown (by decide) HYd.out.r1 HG.out).below hbf).set (.inl rfl) 1 (.slice (some ⟨g', 0, none⟩) (y.w.length + 1) cap'))
                clear bg
                go_wp2
                refine ⟨xs_, ?_⟩
                refine anyB_end (by kernel_rfl) ?_
                intro wm hbm
                simp only [Calm]
                have HN2 := Lib.hid (HN.out.kept hbm)
                have HFr2 := Lib.hid (HFr.out.below hbm)
                clear HN HFr HG HO HYd HWd HBe
                go_wp2_with fail
                go_meet
                case rel => exact HEnd.out _ ⟨_, _, _, HN2.out⟩ (HFr0.out.trans HFr2.out) (HFr2.out.blk _ _ _ (by decide) (by decide) (by decide) (by omega) HBT6.out) (HFr2.out.blk _ _ _ (by decide) (by decide) (by decide) (by omega) HBK6.out)
            · intro w8 hb8 K hK
              have hs8 := hb8.size
              refine wp_bs 38 70 (.tmp 136) (.agg #[.string nm, .string k, .int .i64 si, .int .i64 (-1), .bool cl]) #[.string nm, .string k, .int .i64 si, .int .i64 (-1), .bool cl] rfl rfl (by kernel_rfl) (hK _ _ ⟨xs_, ?_⟩)
              clear hK K
              refine anyB_one (i := 4) (by kernel_rfl) rfl rfl ?_
              intro w9 hb9 K hK
              have hl9 : Below W6.heap.size W6 w9 := (hb8.alloc hs8 _).trans (hb9.mono (by simp; omega))
              have cg9 := (HY6.out.kept hl9).box.cell
              have hs9 := hl9.size
              have HL9 := Lib.hid hl9
              have HBL : Hid (∀ W', Below w9.heap.size w9 W' → Blk W' w8.heap.size 70 #[.string nm, .string k, .int .i64 si, .int .i64 (-1), .bool cl]) := Lib.hid fun W' h => ((Blk.new _ _ _).kept hb9).kept h
              have HLow : Hid (∀ W', Below w9.heap.size w9 W' → Below W6.heap.size W6 W') := Lib.hid fun W' h => HL9.out.trans (h.mono hs9)
              clear hl9
              go_wp2
              refine ⟨xs_, ?_⟩
              as_aux_lemma =>
               refine anyB_one (i := 7) (by kernel_rfl) rfl rfl ?_
               intro wd hbd K hK
               have hWd := HLow.out wd hbd
               have hYd := HY6.out.kept hWd
               have hbl := HBL.out wd hbd
               have hsd := hWd.size
               refine wp_appB 38 70 5 56 elemSw (.tmp 135) (.tmp 137) rfl base _ _ _ rfl hYd.r1 w8.heap.size 1 _ rfl hbl rfl ?_ (by decide) ?_ ?_ ?_ ?_
               · intro u hu; simp at hu; first | (rcases hu with rfl | rfl <;> rfl) | (rcases hu with rfl | rfl | rfl | rfl | rfl <;> rfl)
               · unfold maxLen; omega
               · omega
               · omega
               intro g' cap' we hown hg hat
               have hXe : Ex [gy, r0] W6 we := (Ex.of_below hWd).trans (Ex.of_grown hg (fun r e => by rw [HR0.out r e]; simp))
               refine hK _ _ ⟨hXe, ?_⟩
               clear hK K hat
               have HG := Lib.hid hg
               have HO := Lib.hid hown
               have HYd := Lib.hid hYd
               have HWd := Lib.hid hWd
               have hbe := hYd.box.grown hg (own_neT hYd.r1 hYd.box (by decide))
               have HBe := Lib.hid hbe
               clear hown hg hYd hWd hbl hbe hbd
               as_aux_lemma =>
                (refine anyB_quiet_at (by kernel_rfl) calm_panic xs_ 1 [8, 9] _ _ (by kernel_rfl) (by decide +kernel) ?_; simp only [pickB, List.filterMap_cons, List.filterMap_nil, List.getElem?_toArray, List.getElem?_cons_zero, List.getElem?_cons_succ]; (repeat (first | ((first | (with_reducible refine quietL_plain rfl (fun K hK => ?_)) | (with_reducible refine quietL_want (by with_unfolding_all rfl) (fun K hK => ?_))); (apply Exists.intro; refine ⟨fun wx hx => ?_, ?_⟩; (· (have hcx := ifs_ex hx); simp [go_sem, *, ↓IntWalk.iteOmega] <;> (first | rfl | exact ⟨rfl, rfl⟩ | fail)); (simp only [Act.put, List.setIfInBounds_toArray, List.set_cons_zero, List.set_cons_succ]; refine hK _ ?_; clear hK K))) | ((with_reducible refine quietL_skip (by with_unfolding_all rfl) ?_); simp only [Act.put, List.setIfInBounds_toArray, List.set_cons_zero, List.set_cons_succ]))); refine quietL_nil ?_)
                refine anyB_one (i := 10) (by kernel_rfl) rfl rfl ?_
                intro wf hbf K hK
                have bg := HBe.out.kept hbf
                have cgf := bg.cell
                have fgf := bg.frozen
                have lgf := bg.lt
                have HN := Lib.hid (HAp.out _ _ _ _ HYd.out (grown_then HG.out hbf) (HO.out.kept hbf))
                have HFr := Lib.hid (((((Fr3.refl base gy 133 70 117 W6 (by omega)).below HWd.out).grown (by decide) HYd.out.r1 HG.out).below hbf).set (.inl rfl) 1 (.slice (some ⟨g', 0, none⟩) (y.w.length + 1) cap'))
                clear bg
                go_wp2
                refine ⟨xs_, ?_⟩
                refine anyB_end (by kernel_rfl) ?_
                intro wm hbm
                simp only [Calm]
                have HN2 := Lib.hid (HN.out.kept hbm)
                have HFr2 := Lib.hid (HFr.out.below hbm)
                clear HN HFr HG HO HYd HWd HBe
                go_wp2_with fail
                go_meet
                case rel => exact HEnd.out _ ⟨_, _, _, HN2.out⟩ (HFr0.out.trans HFr2.out) (HFr2.out.blk _ _ _ (by decide) (by decide) (by decide) (by omega) HBT6.out) (HFr2.out.blk _ _ _ (by decide) (by decide) (by decide) (by omega) HBK6.out)
       | false =>
        as_aux_lemma =>
         have k3' : (k.toList == earthL) = false := k3
         have HP3 : Hid (prK y k st = prTail y k nm si (secAtB y (tk st4).1) (or0 kn (whenE (decide (secAtB y (tk st4).1 < 0)) 10)) (tk (tk st4).2)) := Lib.hid (by rw [HP.out, if_pos trivial, HP2.out, if_neg (by rw [k3']; decide)])
         clear HP HP2 k3'
         have c5 := BX5'.out.cell
         have f5 := BX5'.out.frozen
         have l5 := BX5'.out.lt
         go_wp2_with fail
         refine (tword_any bt st4 _ HS5'.out.tk (by omega)).mono ?_
         rintro e w6 ⟨rfl, ht6, hx6⟩
         have HS6 := Lib.hid (HS5'.out.word hx6 ht6)
         have BX6 : Hid (Blk w6 bx 70 #[.string nm, .string k, .int .i64 si, .int .i64 (-1), .bool false]) := Lib.hid ((hx6.block _ BX5'.out.lt (by simp; omega)).trans BX5'.out)
         have hb6 := tk_b HWB4.out
         have hl6 := tk_len st4
         clear ht6 hx6 HS5' BX5' c5 f5 l5
         generalize (tk st4).2 = st6 at *
         generalize (tk st4).1 = n3 at *
         obtain ⟨hn3, hwb6⟩ := hb6
         clear hwb6
         have HRa := Lib.hid (rat_any gy w.heap.size (bt + 1) A0 A1 A2 y.s.length y.w.length y.p.length c0 c1 c2 y kn n3 w6 HS6.out.pb (HY.out.kept HS6.out.low).box HS6.out.kb ((HYa.out.below HS6.out.low).more HS6.out.low.size) HF.out.s9 HF.out.sn (by unfold maxLen; omega))
         go_wp2_with fail
         refine HRa.out.mono ?_
         rintro e w7 ⟨rfl, hk7, hx7⟩
         have HS7a := Lib.hid (HS6.out.at_ hx7 hk7)
         have BX7a : Hid (Blk w7 bx 70 #[.string nm, .string k, .int .i64 si, .int .i64 (-1), .bool false]) := Lib.hid ((hx7.block _ BX6.out.lt (by simp; omega)).trans BX6.out)
         clear hx7 hk7 HRa HS6 BX6
         generalize or0 kn (whenE (decide (secAtB y n3 < 0)) 10) = kn3 at *
         generalize secAtB y n3 = si3 at *
         have c5 := BX7a.out.cell
         have f5 := BX7a.out.frozen
         have l5 := BX7a.out.lt
         have HS7 := Lib.hid (HS7a.out.set hlt3 3 (.int .i64 si3))
         have BX7 := Lib.hid (BX7a.out.set_ 3 (.int .i64 si3))
         clear HS7a BX7a
         go_wp2_with fail
         refine (teither_any bt st6 ⟨#[99, 108, 111, 115, 101, 100]⟩ ⟨#[111, 112, 101, 110]⟩ _ HS7.out.tk (by omega)).mono ?_
         rintro e w8 ⟨rfl, ht8, hx8⟩
         have e1 : (⟨#[99, 108, 111, 115, 101, 100]⟩ : ByteArray).toList = closedL := by rw [toList_data]; rfl
         have e2 : (⟨#[111, 112, 101, 110]⟩ : ByteArray).toList = openL := by rw [toList_data]; rfl
         rw [e1, e2] at ht8
         rw [e1]
         clear e1 e2
         have HS8 := Lib.hid (HS7.out.word hx8 ht8)
         have BX8 : Hid (Blk w8 bx 70 #[.string nm, .string k, .int .i64 si, .int .i64 (si3), .bool false]) := Lib.hid ((hx8.block _ BX7.out.lt (by simp; omega)).trans BX7.out)
         have HE8 : Hid (tkE st6 closedL openL = ((tk st6).2.1, (tk st6).2.2 || !((tk st6).1.toList == closedL || (tk st6).1.toList == openL))) := Lib.hid rfl
         rw [HE8.out] at HS8
         have HP4 : Hid (prK y k st = (synE (((tk st6).2.2 || !((tk st6).1.toList == closedL || (tk st6).1.toList == openL)) || decide (0 < y.p.length) || !(tk st6).2.1.isEmpty) kn3, { y with w := y.w ++ [⟨nm, k, si, si3, (tk st6).1.toList == closedL⟩] })) := Lib.hid (by rw [HP3.out]; rfl)
         have hl8 := tk_len st6
         clear ht8 hx8 HS7 HE8 HP3 BX7 c5 f5 l5
         generalize ((tk st6).2.2 || !((tk st6).1.toList == closedL || (tk st6).1.toList == openL)) = q4 at *
         generalize (tk st6).2.1 = r4 at *
         generalize ((tk st6).1.toList == closedL) = cl at *
         have c8 := BX8.out.cell
         have f8 := BX8.out.frozen
         have l8 := BX8.out.lt
         have HS9 := Lib.hid (HS8.out.set hlt3 4 (.bool cl))
         have BX9 := Lib.hid (BX8.out.set_ 4 (.bool cl))
         go_upto_region 28 with fail
         clear HS8 BX8 c8 f8 l8
         refine wp_world ?_
         intro W hW
         rw [← hW] at HS9 BX9
         clear hW
         obtain ⟨A, n, c, bt5, hnc, hrr⟩ := HS9.out.tk
         have hYW := HY.out.kept HS9.out.low
         have hnr : r4.length = n := by have := hrr.1; simpa using this
         have ct := bt5.cell
         have ft := bt5.frozen
         have lt := bt5.lt
         have cp := HS9.out.pb.cell
         have lp := HS9.out.pb.lt
         have cg := hYW.box.cell
         have lg := hYW.box.lt
         have hn1 := HF.out.w9
         have hn2' := HF.out.p9
         have ob := HS9.out.o1
         have ob0 := HS9.out.o0
         have og := HY.out.box.lt
         have HBT := Lib.hid bt5
         have HHR := Lib.hid hrr
         have hdI : decide ((0 : Int) < (y.p.length : Int)) = decide (0 < y.p.length) := by
          by_cases h : 0 < y.p.length
          · rw [decide_eq_true h, decide_eq_true (by omega)]
          · rw [decide_eq_false h, decide_eq_false (by omega)]
         clear bt5 hrr hYW
         generalize decide (0 < y.p.length) = dq at *
         go_cut [] (fun wx => Blk wx bt 219 #[.slice A n c, .bool (q4 || dq)] ∧ Ex [bt] W wx)
         case first =>
          as_aux_lemma =>
           cases q4 with
           | true =>
            go_wp2_with fail
            go_meet
            case rel => exact ⟨HBT.out.set_ 1 _, (Ex.refl [bt] W).set_in (p := ⟨bt, 1, none⟩) (.inl (List.mem_singleton.2 rfl)) _⟩
           | false =>
            cases dq with
            | true =>
             have hd0 : (0 : Int) < (y.p.length : Int) := of_decide_eq_true hdI
             have hd1 : 0 < y.p.length := by omega
             go_wp2_with fail
             go_meet
             case rel => exact ⟨HBT.out.set_ 1 _, (Ex.refl [bt] W).set_in (p := ⟨bt, 1, none⟩) (.inl (List.mem_singleton.2 rfl)) _⟩
            | false =>
             have hd0 : ¬ (0 : Int) < (y.p.length : Int) := of_decide_eq_false hdI
             have hd1 : ¬ 0 < y.p.length := by omega
             go_wp2_with fail
             go_meet
             case rel => exact ⟨HBT.out.set_ 1 _, (Ex.refl [bt] W).set_in (p := ⟨bt, 1, none⟩) (.inl (List.mem_singleton.2 rfl)) _⟩
         obtain ⟨bt6, hx6⟩ := hcut
         have HS6 := Lib.hid (HS9.out.word (st' := (r4, q4 || dq)) hx6 ⟨A, n, c, bt6, hnc, HHR.out.exT hx6 (fun k hk => by rw [List.mem_singleton.1 hk]; exact Nat.le_refl _) (by omega)⟩)
         have BX6 : Hid (Blk wc bx 70 #[.string nm, .string k, .int .i64 si, .int .i64 (si3), .bool cl]) := Lib.hid ((hx6.block _ BX9.out.lt (by simp; omega)).trans BX9.out)
         have HBT6 := Lib.hid bt6
         rename World => W6
         clear HS9 hx6 HBT HHR ct ft lt cp lp cg lg BX9 bt6 hdI
         have HY6 := Lib.hid (HY.out.kept HS6.out.low)
         have HBK6 := Lib.hid HS6.out.kb
         have HFr0 := Lib.hid ((Fr3.refl base gy 133 70 117 w (by omega)).below HS6.out.low)
         have cp := HS6.out.pb.cell
         have lp := HS6.out.pb.lt
         have cx := BX6.out.cell
         have lx := BX6.out.lt
         have cg := HY6.out.box.cell
         have lg := HY6.out.box.lt
         have hs6 := HS6.out.low.size
         go_upto_region 29 with fail
         as_aux_lemma =>
          have HEnd : Hid (∀ wx, (∃ u0 u1 u2, YdO base gy 41 133 70 117 { y with w := y.w ++ [⟨nm, k, si, si3, cl⟩] } u0 u1 u2 wx) → Fr3 base gy 133 70 117 w wx → Blk wx bt 219 #[.slice A n c, .bool (q4 || dq)] → Blk wx (bt + 1) 34 #[.int .i64 kn3] → RdEnd base gy bt (prK y k st) w wx) :=
           Lib.hid fun wx h1 h2 h3 h4 => by
            rw [HP4.out]
            exact ⟨h1, h2, A, n, c, _, kn3, h3, h4, by rw [← hnr, emp_len], by omega⟩
          obtain ⟨r0, hr0, hr1⟩ : ∃ r0, (∀ r, (Value.slice A1 y.w.length c1).ownBlock = some r → r = r0) ∧ r0 < w.heap.size := by
           cases h : (Value.slice A1 y.w.length c1).ownBlock with
           | none => exact ⟨gy, fun r e => (by cases e), og⟩
           | some r => exact ⟨r, fun z e => (by cases e; rfl), (HY.out.r1.lt r h).2⟩
          have HR0 := Lib.hid hr0
          clear hr0
          have HAp : Hid (∀ U V g' cap', YdO base gy 41 133 70 117 y (.slice A0 y.s.length c0) (.slice A1 y.w.length c1) (.slice A2 y.p.length c2) U → U.grownBy V (Value.slice A1 y.w.length c1).ownBlock → Own V base 70 5 g' (y.w.length + 1) cap' (sws y.w ++ (#[.string nm, .string k, .int .i64 si, .int .i64 (si3), .bool cl] : Array Value).toList) → YdO base gy 41 133 70 117 { y with w := y.w ++ [⟨nm, k, si, si3, cl⟩] } (.slice A0 y.s.length c0) (.slice (some ⟨g', 0, none⟩) (y.w.length + 1) cap') (.slice A2 y.p.length c2) (V.setCell ⟨gy, 1, none⟩ (.slice (some ⟨g', 0, none⟩) (y.w.length + 1) cap'))) :=
           Lib.hid fun U V g' cap' h hg ho => h.app1 (x := ⟨nm, k, si, si3, cl⟩) (by decide) (by decide) (by decide) (by decide) (by decide) hg ho
          clear HP4 HS6 HT HWB hnr hnc
          try clear hl3 hl4 hl8 hnm hn2 hst hk0 hs hn2'
          try clear hl6 hn3
          try clear HWB3 HWB4 HF HYa
          as_aux_lemma =>
           go_wp2_with fail
           (refine wp_region_calm [gy, r0] [0, 1, 2, 3, 5] 6 (by kernel_rfl) rfl (by kernel_rfl) (by kernel_rfl) (by kernel_rfl) ?_; simp only [pickB, List.filterMap_cons, List.filterMap_nil, List.getElem?_toArray, List.getElem?_cons_zero, List.getElem?_cons_succ]; (repeat (first | ((first | (with_reducible refine quietL_plain rfl (fun K hK => ?_)) | (with_reducible refine quietL_want (by with_unfolding_all rfl) (fun K hK => ?_))); (apply Exists.intro; refine ⟨fun wx hx => ?_, ?_⟩; (· (have hcx := ifs_ex hx); simp [go_sem, *, ↓IntWalk.iteOmega] <;> (first | rfl | exact ⟨rfl, rfl⟩ | fail)); (simp only [Act.put, List.setIfInBounds_toArray, List.set_cons_zero, List.set_cons_succ]; refine hK _ ?_; clear hK K))) | ((with_reducible refine quietL_skip (by with_unfolding_all rfl) ?_); simp only [Act.put, List.setIfInBounds_toArray, List.set_cons_zero, List.set_cons_succ]))); refine quietL_nil ?_)
           as_aux_lemma =>
            refine anyB_two (i := 4) (j := 6) (by kernel_rfl) rfl rfl rfl rfl ?_ ?_
            · intro w8 hb8 K hK
              have cg8 := (HY6.out.kept hb8).box.cell
              have hs8 := hb8.size
              go_wp2
              refine ⟨xs_, ?_⟩
              refine anyB_one (i := 6) (by kernel_rfl) rfl rfl ?_
              intro w9 hb9 K hK
              have hs9 := hb9.size
              refine wp_bs 38 70 (.tmp 136) (.agg #[.string nm, .string k, .int .i64 si, .int .i64 (si3), .bool cl]) #[.string nm, .string k, .int .i64 si, .int .i64 (si3), .bool cl] rfl rfl (by kernel_rfl) (hK _ _ ⟨xs_, ?_⟩)
              clear hK K
              have HBL : Hid (∀ W', Below (w9.alloc (.cells #[.string nm, .string k, .int .i64 si, .int .i64 (si3), .bool cl] 70)).heap.size (w9.alloc (.cells #[.string nm, .string k, .int .i64 si, .int .i64 (si3), .bool cl] 70)) W' → Blk W' w9.heap.size 70 #[.string nm, .string k, .int .i64 si, .int .i64 (si3), .bool cl]) := Lib.hid fun W' h => (Blk.new _ _ _).kept h
              have HLow : Hid (∀ W', Below (w9.alloc (.cells #[.string nm, .string k, .int .i64 si, .int .i64 (si3), .bool cl] 70)).heap.size (w9.alloc (.cells #[.string nm, .string k, .int .i64 si, .int .i64 (si3), .bool cl] 70)) W' → Below W6.heap.size W6 W') := Lib.hid fun W' h => (((hb8.trans (hb9.mono hs8)).alloc (by omega) _).trans (h.mono (by simp; omega)))
              as_aux_lemma =>
               refine anyB_one (i := 7) (by kernel_rfl) rfl rfl ?_
               intro wd hbd K hK
               have hWd := HLow.out wd hbd
               have hYd := HY6.out.kept hWd
               have hbl := HBL.out wd hbd
               have hsd := hWd.size
               refine wp_appB 38 70 5 56 elemSw (.tmp 135) (.tmp 137) rfl base _ _ _ rfl hYd.r1 w9.heap.size 1 _ rfl hbl rfl ?_ (by decide) ?_ ?_ ?_ ?_
               · intro u hu; simp at hu; first | (rcases hu with rfl | rfl <;> rfl) | (rcases hu with rfl | rfl | rfl | rfl | rfl <;> rfl)
               · unfold maxLen; omega
               · omega
               · omega
               intro g' cap' we hown hg hat
               have hXe : Ex [gy, r0] W6 we := (Ex.of_below hWd).trans (Ex.of_grown hg (fun r e => by rw [HR0.out r e]; simp))
               refine hK _ _ ⟨hXe, ?_⟩
               clear hK K hat
               have HG := Lib.hid hg
               have HO := Lib.hid hown
               have HYd := Lib.hid hYd
               have HWd := Lib.hid hWd
               have hbe := hYd.box.grown hg (own_neT hYd.r1 hYd.box (by decide))
               have HBe := Lib.hid hbe
               clear hown hg hYd hWd hbl hbe hbd
               as_aux_lemma =>
                (refine anyB_quiet_at (by kernel_rfl) calm_panic xs_ 1 [8, 9] _ _ (by kernel_rfl) (by decide +kernel) ?_; simp only [pickB, List.filterMap_cons, List.filterMap_nil, List.getElem?_toArray, List.getElem?_cons_zero, List.getElem?_cons_succ]; (repeat (first | ((first | (with_reducible refine quietL_plain rfl (fun K hK => ?_)) | (with_reducible refine quietL_want (by with_unfolding_all rfl) (fun K hK => ?_))); (apply Exists.intro; refine ⟨fun wx hx => ?_, ?_⟩; (· (have hcx := ifs_ex hx); simp [go_sem, *, ↓IntWalk.iteOmega] <;> (first | rfl | exact ⟨rfl, rfl⟩ | fail)); (simp only [Act.put, List.setIfInBounds_toArray, List.set_cons_zero, List.set_cons_succ]; refine hK _ ?_; clear hK K))) | ((with_reducible refine quietL_skip (by with_unfolding_all rfl) ?_); simp only [Act.put, List.setIfInBounds_toArray, List.set_cons_zero, List.set_cons_succ]))); refine quietL_nil ?_)
                refine anyB_one (i := 10) (by kernel_rfl) rfl rfl ?_
                intro wf hbf K hK
                have bg := HBe.out.kept hbf
                have cgf := bg.cell
                have fgf := bg.frozen
                have lgf := bg.lt
                have HN := Lib.hid (HAp.out _ _ _ _ HYd.out (grown_then HG.out hbf) (HO.out.kept hbf))
                have HFr := Lib.hid (((((Fr3.refl base gy 133 70 117 W6 (by omega)).below HWd.out).grown (by decide) HYd.out.r1 HG.out).below hbf).set (.inl rfl) 1 (.slice (some ⟨g', 0, none⟩) (y.w.length + 1) cap'))
                clear bg
                go_wp2
                refine ⟨xs_, ?_⟩
                refine anyB_end (by kernel_rfl) ?_
                intro wm hbm
                simp only [Calm]
                have HN2 := Lib.hid (HN.out.kept hbm)
                have HFr2 := Lib.hid (HFr.out.below hbm)
                clear HN HFr HG HO HYd HWd HBe
                go_wp2_with fail
                go_meet
                case rel => exact HEnd.out _ ⟨_, _, _, HN2.out⟩ (HFr0.out.trans HFr2.out) (HFr2.out.blk _ _ _ (by decide) (by decide) (by decide) (by omega) HBT6.out) (HFr2.out.blk _ _ _ (by decide) (by decide) (by decide) (by omega) HBK6.out)
            · intro w8 hb8 K hK
              have hs8 := hb8.size
              refine wp_bs 38 70 (.tmp 136) (.agg #[.string nm, .string k, .int .i64 si, .int .i64 (si3), .bool cl]) #[.string nm, .string k, .int .i64 si, .int .i64 (si3), .bool cl] rfl rfl (by kernel_rfl) (hK _ _ ⟨xs_, ?_⟩)
              clear hK K
              refine anyB_one (i := 4) (by kernel_rfl) rfl rfl ?_
              intro w9 hb9 K hK
              have hl9 : Below W6.heap.size W6 w9 := (hb8.alloc hs8 _).trans (hb9.mono (by simp; omega))
              have cg9 := (HY6.out.kept hl9).box.cell
              have hs9 := hl9.size
              have HL9 := Lib.hid hl9
              have HBL : Hid (∀ W', Below w9.heap.size w9 W' → Blk W' w8.heap.size 70 #[.string nm, .string k, .int .i64 si, .int .i64 (si3), .bool cl]) := Lib.hid fun W' h => ((Blk.new _ _ _).kept hb9).kept h
              have HLow : Hid (∀ W', Below w9.heap.size w9 W' → Below W6.heap.size W6 W') := Lib.hid fun W' h => HL9.out.trans (h.mono hs9)
              clear hl9
              go_wp2
              refine ⟨xs_, ?_⟩
              as_aux_lemma =>
               refine anyB_one (i := 7) (by kernel_rfl) rfl rfl ?_
               intro wd hbd K hK
               have hWd := HLow.out wd hbd
               have hYd := HY6.out.kept hWd
               have hbl := HBL.out wd hbd
               have hsd := hWd.size
               refine wp_appB 38 70 5 56 elemSw (.tmp 135) (.tmp 137) rfl base _ _ _ rfl hYd.r1 w8.heap.size 1 _ rfl hbl rfl ?_ (by decide) ?_ ?_ ?_ ?_
               · intro u hu; simp at hu; first | (rcases hu with rfl | rfl <;> rfl) | (rcases hu with rfl | rfl | rfl | rfl | rfl <;> rfl)
               · unfold maxLen; omega
               · omega
               · omega
               intro g' cap' we hown hg hat
               have hXe : Ex [gy, r0] W6 we := (Ex.of_below hWd).trans (Ex.of_grown hg (fun r e => by rw [HR0.out r e]; simp))
               refine hK _ _ ⟨hXe, ?_⟩
               clear hK K hat
               have HG := Lib.hid hg
               have HO := Lib.hid hown
               have HYd := Lib.hid hYd
               have HWd := Lib.hid hWd
               have hbe := hYd.box.grown hg (own_neT hYd.r1 hYd.box (by decide))
               have HBe := Lib.hid hbe
               clear hown hg hYd hWd hbl hbe hbd
               as_aux_lemma =>
                (refine anyB_quiet_at (by kernel_rfl) calm_panic xs_ 1 [8, 9] _ _ (by kernel_rfl) (by decide +kernel) ?_; simp only [pickB, List.filterMap_cons, List.filterMap_nil, List.getElem?_toArray, List.getElem?_cons_zero, List.getElem?_cons_succ]; (repeat (first | ((first | (with_reducible refine quietL_plain rfl (fun K hK => ?_)) | (with_reducible refine quietL_want (by with_unfolding_all rfl) (fun K hK => ?_))); (apply Exists.intro; refine ⟨fun wx hx => ?_, ?_⟩; (· (have hcx := ifs_ex hx); simp [go_sem, *, ↓IntWalk.iteOmega] <;> (first | rfl | exact ⟨rfl, rfl⟩ | fail)); (simp only [Act.put, List.setIfInBounds_toArray, List.set_cons_zero, List.set_cons_succ]; refine hK _ ?_; clear hK K))) | ((with_reducible refine quietL_skip (by with_unfolding_all rfl) ?_); simp only [Act.put, List.setIfInBounds_toArray, List.set_cons_zero, List.set_cons_succ]))); refine quietL_nil ?_)
                refine anyB_one (i := 10) (by kernel_rfl) rfl rfl ?_
                intro wf hbf K hK
                have bg := HBe.out.kept hbf
                have cgf := bg.cell
                have fgf := bg.frozen
                have lgf := bg.lt
                have HN := Lib.hid (HAp.out _ _ _ _ HYd.out (grown_then HG.out hbf) (HO.out.kept hbf))
                have HFr := Lib.hid (((((Fr3.refl base gy 133 70 117 W6 (by omega)).below HWd.out).grown (by decide) HYd.out.r1 HG.out).below hbf).set (.inl rfl) 1 (.slice (some ⟨g', 0, none⟩) (y.w.length + 1) cap'))
                clear bg
                go_wp2
                refine ⟨xs_, ?_⟩
                refine anyB_end (by kernel_rfl) ?_
                intro wm hbm
                simp only [Calm]
                have HN2 := Lib.hid (HN.out.kept hbm)
                have HFr2 := Lib.hid (HFr.out.below hbm)
                clear HN HFr HG HO HYd HWd HBe
                go_wp2_with fail
                go_meet
                case rel => exact HEnd.out _ ⟨_, _, _, HN2.out⟩ (HFr0.out.trans HFr2.out) (HFr2.out.blk _ _ _ (by decide) (by decide) (by decide) (by omega) HBT6.out) (HFr2.out.blk _ _ _ (by decide) (by decide) (by decide) (by omega) HBK6.out)
 as_aux_lemma =>
  clear HPk
  generalize prK y k st = pk at *
  rename World => W9
  obtain ⟨⟨u0, u1, u2, hYn⟩, hFn, A, n, c, q, kn, hTn, hKn, hpk, hnn⟩ := hcut
  have HF1 := Lib.hid (firstE_two (whenE (q || decide (0 < n)) 25) kn)
  have HPE : Hid (or0 (whenE (q || decide (0 < n)) 25) kn = pk.1) := Lib.hid (by
   rw [← hpk]
   cases (q || decide (0 < n))
   · rfl
   · rfl)
  rw [HPE.out] at HF1
  have HW := Lib.hid (fun W => pwhen_any (q || decide (0 < n)) 25 W)
  have HEn : Hid (∀ W', Below W9.heap.size W9 W' → RdRes base gy y s w (.returned (.int .i64 (firstE [whenE (q || decide (0 < n)) 25, kn]))) W') := Lib.hid fun W' hb' => by
   rw [HRs.out, HF1.out]
   exact ⟨rfl, ⟨_, _, _, hYn.kept hb'⟩, hFn.below hb'⟩
  have ct := hTn.cell
  have ck := hKn.cell
  have lt := hTn.lt
  have lk := hKn.lt
  clear hYn hFn hTn hKn hpk HRs HF1 HPE HWB HY HYa HF HT HS2 hst hk0
  generalize hwe : whenE (q || decide (0 < n)) 25 = we at *
  clear hwe
  cases q with
  | true =>
   go_wp2_with fail
   (refine wp_region_calm [] [0, 1, 2, 3, 4, 5, 6, 7, 8, 9, 10, 11, 12, 13] 3 (by kernel_rfl) rfl (by kernel_rfl) (by kernel_rfl) (by kernel_rfl) ?_; simp only [pickB, List.filterMap_cons, List.filterMap_nil, List.getElem?_toArray, List.getElem?_cons_zero, List.getElem?_cons_succ]; (repeat (first | ((first | (with_reducible refine quietL_plain rfl (fun K hK => ?_)) | (with_reducible refine quietL_want (by with_unfolding_all rfl) (fun K hK => ?_))); (apply Exists.intro; refine ⟨fun wx hx => ?_, ?_⟩; (· (have hcx := ifs_ex hx); simp [go_sem, *, ↓IntWalk.iteOmega] <;> (first | rfl | exact ⟨rfl, rfl⟩ | exact calls_B (calls_below (HW.out _)))); (simp only [Act.put, List.setIfInBounds_toArray, List.set_cons_zero, List.set_cons_succ]; refine hK _ ?_; clear hK K))) | ((with_reducible refine quietL_skip (by with_unfolding_all rfl) ?_); simp only [Act.put, List.setIfInBounds_toArray, List.set_cons_zero, List.set_cons_succ]))); refine quietL_nil ?_)
   (refine anyB_one (i := 14) (by kernel_rfl) rfl rfl ?_; intro w2 hb2 K hK; obtain ⟨hc2, hf2⟩ := ifs_of hb2; have hs2 := hb2.size; (try simp at hs2); go_wp2; refine ⟨xs_, ?_⟩)
   (refine anyB_one (i := 15) (by kernel_rfl) rfl rfl ?_; intro w3 hb3 K hK; obtain ⟨hc3, hf3⟩ := ifs_of hb3; have hs3 := hb3.size; (try simp at hs3); go_wp2_with fail; refine (pfirst_any (w2.heap.size + 1) _ 2 2 [we, kn] _ ((by simpa using Reads.new (size := 1) w2 (([we, kn]).map (.int .i64)).toArray 34 2 rfl : Reads (w2.alloc (.cells (([we, kn]).map (.int .i64)).toArray 34)) (w2.heap.size + 1) 1 (some ⟨w2.heap.size, 0, none⟩) 2 (([we, kn]).map (.int .i64))).below (hb3.mono (by simp))) (by unfold maxLen; decide)).mono ?_; rintro e w3' ⟨rfl, rfl⟩; go_wp2; refine ⟨xs_, ?_⟩)
   (refine anyB_one (i := 16) (by kernel_rfl) rfl rfl ?_; intro w4 hb4 K hK; obtain ⟨hc4, hf4⟩ := ifs_of hb4; have hs4 := hb4.size; (try simp at hs4); go_wp2; refine ⟨xs_, ?_⟩)
   (refine anyB_end (by kernel_rfl) ?_; intro w5 hb5; obtain ⟨hc5, hf5⟩ := ifs_of hb5; have hs5 := hb5.size; (try simp at hs5); simp only [Calm]; go_wp2_with fail)
   go_ret
   exact HEn.out _ bl_
  | false =>
   by_cases hn0 : 0 < n
   · have hn1 : (0 : Int) < (n : Int) := by omega
     rw [decide_eq_true hn0] at HW
     go_wp2_with fail
     (refine wp_region_calm [] [0, 1, 2, 3, 4, 5, 6, 7, 8, 9, 10, 11, 12, 13] 3 (by kernel_rfl) rfl (by kernel_rfl) (by kernel_rfl) (by kernel_rfl) ?_; simp only [pickB, List.filterMap_cons, List.filterMap_nil, List.getElem?_toArray, List.getElem?_cons_zero, List.getElem?_cons_succ]; (repeat (first | ((first | (with_reducible refine quietL_plain rfl (fun K hK => ?_)) | (with_reducible refine quietL_want (by with_unfolding_all rfl) (fun K hK => ?_))); (apply Exists.intro; refine ⟨fun wx hx => ?_, ?_⟩; (· (have hcx := ifs_ex hx); simp [go_sem, *, ↓IntWalk.iteOmega] <;> (first | rfl | exact ⟨rfl, rfl⟩ | exact calls_B (calls_below (HW.out _)))); (simp only [Act.put, List.setIfInBounds_toArray, List.set_cons_zero, List.set_cons_succ]; refine hK _ ?_; clear hK K))) | ((with_reducible refine quietL_skip (by with_unfolding_all rfl) ?_); simp only [Act.put, List.setIfInBounds_toArray, List.set_cons_zero, List.set_cons_succ]))); refine quietL_nil ?_)
     (refine anyB_one (i := 14) (by kernel_rfl) rfl rfl ?_; intro w2 hb2 K hK; obtain ⟨hc2, hf2⟩ := ifs_of hb2; have hs2 := hb2.size; (try simp at hs2); go_wp2; refine ⟨xs_, ?_⟩)
     (refine anyB_one (i := 15) (by kernel_rfl) rfl rfl ?_; intro w3 hb3 K hK; obtain ⟨hc3, hf3⟩ := ifs_of hb3; have hs3 := hb3.size; (try simp at hs3); go_wp2_with fail; refine (pfirst_any (w2.heap.size + 1) _ 2 2 [we, kn] _ ((by simpa using Reads.new (size := 1) w2 (([we, kn]).map (.int .i64)).toArray 34 2 rfl : Reads (w2.alloc (.cells (([we, kn]).map (.int .i64)).toArray 34)) (w2.heap.size + 1) 1 (some ⟨w2.heap.size, 0, none⟩) 2 (([we, kn]).map (.int .i64))).below (hb3.mono (by simp))) (by unfold maxLen; decide)).mono ?_; rintro e w3' ⟨rfl, rfl⟩; go_wp2; refine ⟨xs_, ?_⟩)
     (refine anyB_one (i := 16) (by kernel_rfl) rfl rfl ?_; intro w4 hb4 K hK; obtain ⟨hc4, hf4⟩ := ifs_of hb4; have hs4 := hb4.size; (try simp at hs4); go_wp2; refine ⟨xs_, ?_⟩)
     (refine anyB_end (by kernel_rfl) ?_; intro w5 hb5; obtain ⟨hc5, hf5⟩ := ifs_of hb5; have hs5 := hb5.size; (try simp at hs5); simp only [Calm]; go_wp2_with fail)
     go_ret
     exact HEn.out _ bl_
   · have hn1 : ¬ (0 : Int) < (n : Int) := by omega
     rw [decide_eq_false hn0] at HW
     go_wp2_with fail
     (refine wp_region_calm [] [0, 1, 2, 3, 4, 5, 6, 7, 8, 9, 10, 11, 12, 13] 3 (by kernel_rfl) rfl (by kernel_rfl) (by kernel_rfl) (by kernel_rfl) ?_; simp only [pickB, List.filterMap_cons, List.filterMap_nil, List.getElem?_toArray, List.getElem?_cons_zero, List.getElem?_cons_succ]; (repeat (first | ((first | (with_reducible refine quietL_plain rfl (fun K hK => ?_)) | (with_reducible refine quietL_want (by with_unfolding_all rfl) (fun K hK => ?_))); (apply Exists.intro; refine ⟨fun wx hx => ?_, ?_⟩; (· (have hcx := ifs_ex hx); simp [go_sem, *, ↓IntWalk.iteOmega] <;> (first | rfl | exact ⟨rfl, rfl⟩ | exact calls_B (calls_below (HW.out _)))); (simp only [Act.put, List.setIfInBounds_toArray, List.set_cons_zero, List.set_cons_succ]; refine hK _ ?_; clear hK K))) | ((with_reducible refine quietL_skip (by with_unfolding_all rfl) ?_); simp only [Act.put, List.setIfInBounds_toArray, List.set_cons_zero, List.set_cons_succ]))); refine quietL_nil ?_)
     (refine anyB_one (i := 14) (by kernel_rfl) rfl rfl ?_; intro w2 hb2 K hK; obtain ⟨hc2, hf2⟩ := ifs_of hb2; have hs2 := hb2.size; (try simp at hs2); go_wp2; refine ⟨xs_, ?_⟩)
     (refine anyB_one (i := 15) (by kernel_rfl) rfl rfl ?_; intro w3 hb3 K hK; obtain ⟨hc3, hf3⟩ := ifs_of hb3; have hs3 := hb3.size; (try simp at hs3); go_wp2_with fail; refine (pfirst_any (w2.heap.size + 1) _ 2 2 [we, kn] _ ((by simpa using Reads.new (size := 1) w2 (([we, kn]).map (.int .i64)).toArray 34 2 rfl : Reads (w2.alloc (.cells (([we, kn]).map (.int .i64)).toArray 34)) (w2.heap.size + 1) 1 (some ⟨w2.heap.size, 0, none⟩) 2 (([we, kn]).map (.int .i64))).below (hb3.mono (by simp))) (by unfold maxLen; decide)).mono ?_; rintro e w3' ⟨rfl, rfl⟩; go_wp2; refine ⟨xs_, ?_⟩)
     (refine anyB_one (i := 16) (by kernel_rfl) rfl rfl ?_; intro w4 hb4 K hK; obtain ⟨hc4, hf4⟩ := ifs_of hb4; have hs4 := hb4.size; (try simp at hs4); go_wp2; refine ⟨xs_, ?_⟩)
     (refine anyB_end (by kernel_rfl) ?_; intro w5 hb5; obtain ⟨hc5, hf5⟩ := ifs_of hb5; have hs5 := hb5.size; (try simp at hs5); simp only [Calm]; go_wp2_with fail)
     go_ret
     exact HEn.out _ bl_
end Go.Proofs.YtphlojgmfkgeiaaGreatDoor
